/-
  Walks, first part: small functions of tow, and slices.IndexFunc and ContainsFunc at three element types.
  Walks, second part: what checks a streamer, bounds of offsets, waters and speeds.
  Walks, third part: a step of offsets (tow.Step) and what it calls.
  Walks, fourth part: each at bounds; the bounds after a step, and of bends.
  Two lists of numbers alike.
  The chapter's own streamer and bounds.
  Walks, fifth part: the bounds after a step.
  Walks, sixth part: pulls.
  Walks, seventh part: the bounds step by step, and in which steps a streamer may be beyond its limits.
  Walks, eighth part: strain, Watch, Keeps.
  A map from pairs of numbers to truth values that the call made itself.
  Walks, ninth part: begun, watched, keeps, Watch, Keeps.
  Walks, tenth part: keeps, Watch, Keeps.
  Walks, eleventh part: Fastest.
  Walks, twelfth part: Fastest.
  Walks, thirteenth part: Fastest, where plans are looked for.
-/
import Derived.Test.YtcmbmmpihiekhaaGreatI1
import Derived.Test.YtcmbmmpihiekhaaGreatBase
import Derived.Shelf.Abstract
import Derived.Deep.QuietTactic
import Derived.BigQuiet
import Derived.Deep.RegionHeld3
import Derived.StillTailTactics
import Derived.BigRegionIn
import Derived.Maps.Own
import Derived.Maps.Views
import Derived.WideKeyPair
import Derived.Carry
import Derived.Deep.RegionWith
import Derived.Deep.AppendLies
import Derived.WalkMore
set_option maxRecDepth 100000
set_option maxHeartbeats 16000000
set_option linter.unusedSimpArgs false
set_option linter.unusedVariables false
namespace Go.Proofs.YtcmbmmpihiekhaaGreat
open Go.RowKit Go.Shelf

theorem index_bnd (p : Bnd → Bool) (A : Option Addr) (n c B g : Nat) (lb : Array Value) (eg : ∀ args w, (callFunc g args).run Tryz.prog w = .ok (.enter g args) w) (xs : List Bnd) (w : World)
    (hp : PredB g lb (fun b => Value.agg #[.int .i64 b.lo, .int .i64 b.hi]) p w) (hs : SlAt w B 2 Bnd.cells A n c xs) :
    Calls Tryz.prog 106 #[.slice A n c, .func (.func g) #[] lb] w fun e w' => e = .returned (.int .i64 (idxf p xs 0)) ∧ Below w.heap.size w w' := by
  have hn := hs.le
  have hl := Lib.hid hs.len
  go_enter Tryz.func106, Tryz.ntmps106
  go_wp2
  go_loopw [8] (fun i wr => ∃ k : Nat, i = .int .i64 k ∧ k ≤ n ∧ noneTo p xs k ∧ Below w.heap.size w wr) (fun i wr => n - (intOf i).toNat)
  case atStart => exact ⟨0, rfl, Nat.zero_le _, by simp [noneTo], Below.refl _ _⟩
  case round =>
    obtain ⟨k, rfl, hk, hno, hb⟩ := hrel
    by_cases hlt : k < n
    · obtain ⟨x, hx⟩ := some_of_lt hl.out hlt
      have hcall := hp wr x hb
      obtain ⟨b, off, rfl, -, hbl, c0, c1⟩ := (hs.keep hb.size (fun _ _ h => hb.cell h)).bnd hx
      replace hx := Lib.hid hx
      clear hs hp
      cases hq : p x with
      | true =>
        rw [hq] at hcall
        replace hq := Lib.hid hq
        go_wp2_with (go_at_fn g; refine hcall.mono ?_; rintro e w' ⟨rfl, hb'⟩)
        go_ret
        exact ⟨ret_int (by rw [idxf_hit p xs 0 k x hx.out hq.out hno]; omega), hb.trans (hb'.mono hb.size)⟩
      | false =>
        rw [hq] at hcall
        replace hq := Lib.hid hq
        go_wp2_with (go_at_fn g; refine hcall.mono ?_; rintro e w' ⟨rfl, hb'⟩)
        go_roundw
        case rel => exact ⟨k + 1, by go_num, by omega, noneTo_succ hno hx.out hq.out, hb.trans (hb'.mono hb.size)⟩
        case measure => simp [intOf]; omega
    · go_wp2
      go_ret
      exact ⟨ret_int (by rw [idxf_miss p xs 0 (noneTo_all hno (by have := hl.out; omega))]), hb⟩
theorem contains_bnd (p : Bnd → Bool) (A : Option Addr) (n c B g : Nat) (lb : Array Value) (eg : ∀ args w, (callFunc g args).run Tryz.prog w = .ok (.enter g args) w) (xs : List Bnd) (w : World)
    (hp : PredB g lb (fun b => Value.agg #[.int .i64 b.lo, .int .i64 b.hi]) p w) (hs : SlAt w B 2 Bnd.cells A n c xs) :
    Calls Tryz.prog 54 #[.slice A n c, .func (.func g) #[] lb] w fun e w' => e = .returned (.bool (xs.any p)) ∧ Below w.heap.size w w' := by
  go_enter Tryz.func54, Tryz.ntmps54
  go_wp2_with (go_at_call 106; refine (index_bnd p A n c B g lb eg xs _ hp hs).mono ?_; rintro e w' ⟨rfl, hb'⟩)
  go_ret
  exact ⟨ret_bool (idxf_any p xs 0), hb'⟩
theorem index_wat (p : Wat → Bool) (A : Option Addr) (n c B g : Nat) (lb : Array Value) (eg : ∀ args w, (callFunc g args).run Tryz.prog w = .ok (.enter g args) w) (xs : List Wat) (w : World)
    (hp : PredB g lb (fun x => Value.agg #[.int .i64 x.acr.lo, .int .i64 x.acr.hi, .int .i64 x.alo.lo, .int .i64 x.alo.hi]) p w) (hs : SlAt w B 4 Wat.cells A n c xs) :
    Calls Tryz.prog 135 #[.slice A n c, .func (.func g) #[] lb] w fun e w' => e = .returned (.int .i64 (idxf p xs 0)) ∧ Below w.heap.size w w' := by
  have hn := hs.le
  have hl := Lib.hid hs.len
  go_enter Tryz.func135, Tryz.ntmps135
  go_wp2
  go_loopw [8] (fun i wr => ∃ k : Nat, i = .int .i64 k ∧ k ≤ n ∧ noneTo p xs k ∧ Below w.heap.size w wr) (fun i wr => n - (intOf i).toNat)
  case atStart => exact ⟨0, rfl, Nat.zero_le _, by simp [noneTo], Below.refl _ _⟩
  case round =>
    obtain ⟨k, rfl, hk, hno, hb⟩ := hrel
    by_cases hlt : k < n
    · obtain ⟨x, hx⟩ := some_of_lt hl.out hlt
      have hcall := hp wr x hb
      obtain ⟨b, off, rfl, -, hbl, c0, c1, c2, c3⟩ := (hs.keep hb.size (fun _ _ h => hb.cell h)).wat hx
      replace hx := Lib.hid hx
      clear hs hp
      cases hq : p x with
      | true =>
        rw [hq] at hcall
        replace hq := Lib.hid hq
        go_wp2_with (go_at_fn g; refine hcall.mono ?_; rintro e w' ⟨rfl, hb'⟩)
        go_ret
        exact ⟨ret_int (by rw [idxf_hit p xs 0 k x hx.out hq.out hno]; omega), hb.trans (hb'.mono hb.size)⟩
      | false =>
        rw [hq] at hcall
        replace hq := Lib.hid hq
        go_wp2_with (go_at_fn g; refine hcall.mono ?_; rintro e w' ⟨rfl, hb'⟩)
        go_roundw
        case rel => exact ⟨k + 1, by go_num, by omega, noneTo_succ hno hx.out hq.out, hb.trans (hb'.mono hb.size)⟩
        case measure => simp [intOf]; omega
    · go_wp2
      go_ret
      exact ⟨ret_int (by rw [idxf_miss p xs 0 (noneTo_all hno (by have := hl.out; omega))]), hb⟩
theorem contains_wat (p : Wat → Bool) (A : Option Addr) (n c B g : Nat) (lb : Array Value) (eg : ∀ args w, (callFunc g args).run Tryz.prog w = .ok (.enter g args) w) (xs : List Wat) (w : World)
    (hp : PredB g lb (fun x => Value.agg #[.int .i64 x.acr.lo, .int .i64 x.acr.hi, .int .i64 x.alo.lo, .int .i64 x.alo.hi]) p w) (hs : SlAt w B 4 Wat.cells A n c xs) :
    Calls Tryz.prog 96 #[.slice A n c, .func (.func g) #[] lb] w fun e w' => e = .returned (.bool (xs.any p)) ∧ Below w.heap.size w w' := by
  go_enter Tryz.func96, Tryz.ntmps96
  go_wp2_with (go_at_call 135; refine (index_wat p A n c B g lb eg xs _ hp hs).mono ?_; rintro e w' ⟨rfl, hb'⟩)
  go_ret
  exact ⟨ret_bool (idxf_any p xs 0), hb'⟩
end Go.Proofs.YtcmbmmpihiekhaaGreat
namespace Go.Proofs.YtcmbmmpihiekhaaGreat
open Go.RowKit Go.Shelf

theorem within_any (n lo hi : Int) (w : World) :
    Calls Tryz.prog 20 #[.int .i64 n, .int .i64 lo, .int .i64 hi] w fun e w' => e = .returned (.bool (decide (lo ≤ n ∧ n ≤ hi))) ∧ w = w' := by
  by_cases h : lo ≤ n
  · go_enter Tryz.func20, Tryz.ntmps20
    go_wp2
    go_ret
    simp [h]
  · go_enter Tryz.func20, Tryz.ntmps20
    go_wp2
    go_ret
    simp; omega
theorem bound_any (b : Bnd) (m : Int) (w : World) (hm0 : 0 ≤ m) (hm : m ≤ 100000) :
    Calls Tryz.prog 133 #[.agg #[.int .i64 b.lo, .int .i64 b.hi], .int .i64 m] w fun e w' => e = .returned (.bool (okBnd m b)) ∧ Below w.heap.size w w' := by
  go_enter Tryz.func133, Tryz.ntmps133
  go_wp2_with (go_at_call 20; refine (within_any _ _ _ _).mono ?_; rintro e w' ⟨rfl, rfl⟩)
  · go_ret
    exact ⟨ret_bool (dec_eq (by omega)), (Below.refl _ _).alloc (Nat.le_refl _) _⟩
  · go_ret
    exact ⟨ret_bool (by simp [okBnd]; omega), (Below.refl _ _).alloc (Nat.le_refl _) _⟩
theorem bound100_any (b : Bnd) (w : World) :
    Calls Tryz.prog 98 #[.agg #[.int .i64 b.lo, .int .i64 b.hi]] w fun e w' => e = .returned (.bool (okBnd 100 b)) ∧ Below w.heap.size w w' := by
  go_enter Tryz.func98, Tryz.ntmps98
  go_wp2_with (go_at_call 133; refine (bound_any b 100 _ (by omega) (by omega)).mono ?_; rintro e w' ⟨rfl, hb⟩)
  go_ret
  exact ⟨rfl, ((Below.refl _ _).alloc (Nat.le_refl _) _).trans (hb.mono (by simp))⟩
theorem bound50_any (b : Bnd) (w : World) :
    Calls Tryz.prog 99 #[.agg #[.int .i64 b.lo, .int .i64 b.hi]] w fun e w' => e = .returned (.bool (okBnd 50 b)) ∧ Below w.heap.size w w' := by
  go_enter Tryz.func99, Tryz.ntmps99
  go_wp2_with (go_at_call 133; refine (bound_any b 50 _ (by omega) (by omega)).mono ?_; rintro e w' ⟨rfl, hb⟩)
  go_ret
  exact ⟨rfl, ((Below.refl _ _).alloc (Nat.le_refl _) _).trans (hb.mono (by simp))⟩
theorem down_any (n : Int) (w : World) (h1 : -1000000000000 ≤ n) (h2 : n ≤ 1000000000000) :
    Calls Tryz.prog 136 #[.int .i64 n] w fun e w' => e = .returned (.int .i64 (n / 64)) ∧ w = w' := by
  have ht' := Lib.hid (tdiv_spec n 64 (by omega))
  go_enter Tryz.func136, Tryz.ntmps136
  go_wp2
  · go_ret
    have ht := ht'.out
    exact ⟨ret_int (by rw [IntWalk.wrap64_in _ (by omega)]; exact (ediv_of n 64 (n.tdiv 64 - 1) (n.tmod 64 + 64) (by omega) (by omega) (by omega) (by omega)).symm), rfl⟩
  · go_ret
    have ht := ht'.out
    exact ⟨ret_int (ediv_of n 64 (n.tdiv 64) (n.tmod 64) (by omega) (by omega) (by omega) (by omega)).symm, rfl⟩
/-! numbers: is each of at most a magnitude? -/
theorem numbers1_any (m : Int) (bm : Nat) (w : World) (hm0 : 0 ≤ m) (hm : m ≤ 100000) (hbm : bm < w.heap.size) (hc : w.cell? ⟨bm, 0, none⟩ = some (.int .i64 m)) :
    PredB 147 #[.pointer (some ⟨bm, 0, none⟩)] (fun n => Value.int .i64 n) (fun n => !okNum m n) w := by
  intro W x hb
  have hc' := (hb.cell (p := ⟨bm, 0, none⟩) hbm).trans hc
  clear hc
  show Calls Tryz.prog 147 #[.int .i64 x, .pointer (some ⟨bm, 0, none⟩)] W _
  go_enter Tryz.func147, Tryz.ntmps147
  go_wp2_with (go_at_call 20; refine (within_any _ _ _ _).mono ?_; rintro e w' ⟨rfl, rfl⟩)
  go_ret
  exact ⟨ret_bool (by simp [okNum]), Below.refl _ _⟩
theorem eg_numbers1 : Enters Tryz.prog 147 := enters_of Tryz.func147 (by kernel_rfl) rfl
theorem numbers_any (s : Strm) (A O : Option Addr) (n c no co B : Nat) (l : List Int) (m : Int) (w : World) (hm0 : 0 ≤ m) (hm : m ≤ 100000) (hn : s.secs.length = n) (hs : SlAt w B 1 ivs O no co l) :
    Calls Tryz.prog 120 #[.agg #[.int .i64 s.head, .slice A n c, .int .i64 s.lane.lo, .int .i64 s.lane.hi, .int .i64 s.bend], .slice O no co, .int .i64 m] w fun e w' => e = .returned (.bool (okNums s l m)) ∧ Below w.heap.size w w' := by
  have hl := Lib.hid hs.len
  have hn' := Lib.hid hn
  clear hn
  by_cases he : no = n
  · subst he
    go_enter Tryz.func120, Tryz.ntmps120
    go_wp2_with (go_at_call 50; refine (contains_int (fun n => !okNum m n) O no co B _ _ eg_numbers1 l _ (numbers1_any m (w.heap.size + 1) _ hm0 hm (by simp) (by simp [go_sem])) ((hs.alloc _).alloc _)).mono ?_; rintro e w' ⟨rfl, hb⟩)
    go_ret
    exact ⟨ret_bool (by simp [okNums, any_not, hl.out, hn'.out]), (((Below.refl _ _).alloc (Nat.le_refl _) _).alloc (by simp) _).trans (hb.mono (by simp; omega))⟩
  · have he' : ((no : Int) == (n : Int)) = false := by rw [beq_eq_false_iff_ne]; omega
    have hx : okNums s l m = false := by simp [okNums, hl.out, hn'.out, he]
    replace he := Lib.hid he
    go_enter Tryz.func120, Tryz.ntmps120
    go_wp2
    go_ret
    exact ⟨ret_bool hx.symm, (((Below.refl _ _).alloc (Nat.le_refl _) _).alloc (by simp) _)⟩
/-! bounds: are these bounds of offsets? -/
theorem bounds1_any (w : World) : PredB 134 #[] (fun b => Value.agg #[.int .i64 b.lo, .int .i64 b.hi]) (fun b => !okBnd 16384 b) w := by
  intro W x _
  show Calls Tryz.prog 134 #[.agg #[.int .i64 x.lo, .int .i64 x.hi]] W _
  go_enter Tryz.func134, Tryz.ntmps134
  go_wp2_with (go_at_call 133; refine (bound_any x 16384 _ (by omega) (by omega)).mono ?_; rintro e w' ⟨rfl, hb⟩)
  go_ret
  exact ⟨rfl, ((Below.refl _ _).alloc (Nat.le_refl _) _).trans (hb.mono (by simp))⟩
theorem eg_bounds1 : Enters Tryz.prog 134 := enters_of Tryz.func134 (by kernel_rfl) rfl
theorem bounds_any (s : Strm) (A O : Option Addr) (n c no co B : Nat) (l : List Bnd) (w : World) (hn : s.secs.length = n) (hs : SlAt w B 2 Bnd.cells O no co l) :
    Calls Tryz.prog 95 #[.agg #[.int .i64 s.head, .slice A n c, .int .i64 s.lane.lo, .int .i64 s.lane.hi, .int .i64 s.bend], .slice O no co] w fun e w' => e = .returned (.bool (okOffs s l)) ∧ Below w.heap.size w w' := by
  have hl := Lib.hid hs.len
  have hn' := Lib.hid hn
  clear hn
  by_cases he : no = n
  · subst he
    go_enter Tryz.func95, Tryz.ntmps95
    go_wp2_with (go_at_call 54; refine (contains_bnd (fun b => !okBnd 16384 b) O no co B _ _ eg_bounds1 l _ (bounds1_any _) (hs.alloc _)).mono ?_; rintro e w' ⟨rfl, hb⟩)
    go_ret
    exact ⟨ret_bool (by simp [okOffs, any_not, hl.out, hn'.out]), ((Below.refl _ _).alloc (Nat.le_refl _) _).trans (hb.mono (by simp))⟩
  · have he' : ((no : Int) == (n : Int)) = false := by rw [beq_eq_false_iff_ne]; omega
    have hx : okOffs s l = false := by simp [okOffs, hl.out, hn'.out, he]
    replace he := Lib.hid he
    go_enter Tryz.func95, Tryz.ntmps95
    go_wp2
    go_ret
    exact ⟨ret_bool hx.symm, ((Below.refl _ _).alloc (Nat.le_refl _) _)⟩
/-! speeds -/
theorem speeds1_any (w : World) : PredB 51 #[] (fun n => Value.int .i64 n) (fun n => !okSpeed n) w := by
  intro W x _
  show Calls Tryz.prog 51 #[.int .i64 x] W _
  go_enter Tryz.func51, Tryz.ntmps51
  go_wp2_with (go_at_call 20; refine (within_any _ _ _ _).mono ?_; rintro e w' ⟨rfl, rfl⟩)
  go_ret
  exact ⟨ret_bool (by simp [okSpeed]), Below.refl _ _⟩
theorem eg_speeds1 : Enters Tryz.prog 51 := enters_of Tryz.func51 (by kernel_rfl) rfl
theorem speeds_any (O : Option Addr) (no co B : Nat) (l : List Int) (w : World) (hs : SlAt w B 1 ivs O no co l) :
    Calls Tryz.prog 21 #[.slice O no co] w fun e w' => e = .returned (.bool (okSpeeds l)) ∧ Below w.heap.size w w' := by
  go_enter Tryz.func21, Tryz.ntmps21
  go_wp2_with (go_at_call 50; refine (contains_int (fun n => !okSpeed n) O no co B _ _ eg_speeds1 l _ (speeds1_any _) hs).mono ?_; rintro e w' ⟨rfl, hb⟩)
  go_ret
  exact ⟨ret_bool (by simp [okSpeeds, any_not]), hb⟩
/-! waters -/
theorem waters1_any (w : World) : PredB 97 #[] (fun x => Value.agg #[.int .i64 x.acr.lo, .int .i64 x.acr.hi, .int .i64 x.alo.lo, .int .i64 x.alo.hi]) (fun x => !okWat x) w := by
  intro W x _
  show Calls Tryz.prog 97 #[.agg #[.int .i64 x.acr.lo, .int .i64 x.acr.hi, .int .i64 x.alo.lo, .int .i64 x.alo.hi]] W _
  cases h1 : okBnd 100 x.acr
  · have h1' := Lib.hid h1
    go_enter Tryz.func97, Tryz.ntmps97
    go_wp2_with (go_at_call 98; refine (bound100_any x.acr _).mono ?_; rw [h1]; rintro e w1 ⟨rfl, hb1⟩)
    go_ret
    exact ⟨ret_bool (by simp [okWat, h1'.out]), ((Below.refl _ _).alloc (Nat.le_refl _) _).trans (hb1.mono (by simp))⟩
  · have h1' := Lib.hid h1
    go_enter Tryz.func97, Tryz.ntmps97
    go_wp2_with (first | (go_at_call 98; refine (bound100_any x.acr _).mono ?_; rw [h1]; rintro e w1 ⟨rfl, hb1⟩; obtain ⟨hc1, hf1⟩ := bcell hb1) | (go_at_call 99; refine (bound50_any x.alo _).mono ?_; rintro e w2 ⟨rfl, hb2⟩))
    go_ret
    exact ⟨ret_bool (by simp [okWat, h1'.out]), (((Below.refl _ _).alloc (Nat.le_refl _) _).trans (hb1.mono (by simp))).trans (hb2.mono (by have := hb1.size; simp at this; omega))⟩
theorem eg_waters1 : Enters Tryz.prog 97 := enters_of Tryz.func97 (by kernel_rfl) rfl
theorem waters_any (O : Option Addr) (no co B : Nat) (l : List Wat) (w : World) (hs : SlAt w B 4 Wat.cells O no co l) :
    Calls Tryz.prog 49 #[.slice O no co] w fun e w' => e = .returned (.int .i64 (chkWats l)) ∧ Below w.heap.size w w' := by
  have hl := Lib.hid hs.len
  by_cases h : no ≤ 48
  · go_enter Tryz.func49, Tryz.ntmps49
    go_wp2_with (go_at_call 96; refine (contains_wat (fun x => !okWat x) O no co B _ _ eg_waters1 l _ (waters1_any _) hs).mono ?_; rintro e w' ⟨rfl, hb⟩)
    · go_ret
      have hh : 48 < (no : Int) ∨ (l.any fun x => !okWat x) = true := by assumption
      have e := any_not okWat l
      have hf : okWats l = false := by
        rcases hh with hh | hh
        · omega
        · rw [hh] at e; simp [okWats, ← e]
      exact ⟨ret_int (by simp [chkWats, hf]), hb⟩
    · go_ret
      have hh : (no : Int) ≤ 48 ∧ (l.any fun x => !okWat x) = false := by assumption
      have e := any_not okWat l
      have hf : okWats l = true := by
        rw [hh.2] at e; simp only [okWats, ← e, hl.out, Bool.not_false, Bool.and_true]; exact decide_eq_true (by omega)
      exact ⟨ret_int (by simp [chkWats, hf]), hb⟩
  · go_enter Tryz.func49, Tryz.ntmps49
    go_wp2
    go_ret
    exact ⟨ret_int (by simp [chkWats, okWats, hl.out]; omega), Below.refl _ _⟩
/-! Check -/
def okTo (l : List Sec) (k : Nat) : Prop := (l.take k).all okSec = true
theorem okTo_succ {l : List Sec} {k : Nat} {x : Sec} (h : okTo l k) (hk : l[k]? = some x) (hx : okSec x = true) : okTo l (k + 1) := by
  unfold okTo at *
  rw [List.take_add_one, hk]; simp [h, hx]
theorem chk_bad {s : Strm} {k : Nat} {x : Sec} (hk : s.secs[k]? = some x) (hx : okSec x = false) : chkStrm s = 30 := by
  have h1 : s.secs.all okSec = false := by
    rw [List.all_eq_false]
    exact ⟨x, List.mem_of_getElem? hk, by simp [hx]⟩
  simp [chkStrm, okStrm, h1]
theorem chk_head {s : Strm} (h : ¬ headOk s) : chkStrm s = 30 := by simp [chkStrm, okStrm, h]
theorem chk_ok {s : Strm} (h : headOk s) (h2 : okTo s.secs s.secs.length) : chkStrm s = 0 := by
  unfold okTo at h2; rw [List.take_length] at h2
  simp [chkStrm, okStrm, h, h2]
theorem okSec_of {x : Sec} (h : 1 ≤ x.len ∧ x.len ≤ 1000 ∧ 0 ≤ x.fol ∧ x.fol ≤ 64 ∧ 0 ≤ x.bird ∧ x.bird ≤ 1000 ∧ 0 ≤ x.drag ∧ x.drag ≤ 1000 ∧ 0 ≤ x.cap ∧ x.cap ≤ 1073741824) : okSec x = true := decide_eq_true h
theorem okSec_not {x : Sec} (h : ¬ (1 ≤ x.len ∧ x.len ≤ 1000 ∧ 0 ≤ x.fol ∧ x.fol ≤ 64 ∧ 0 ≤ x.bird ∧ x.bird ≤ 1000 ∧ 0 ≤ x.drag ∧ x.drag ≤ 1000 ∧ 0 ≤ x.cap ∧ x.cap ≤ 1073741824)) : okSec x = false := decide_eq_false h
theorem check_any (s : Strm) (A : Option Addr) (n c B : Nat) (w : World) (hs : SlAt w B 5 Sec.cells A n c s.secs) :
    Calls Tryz.prog 94 #[.agg #[.int .i64 s.head, .slice A n c, .int .i64 s.lane.lo, .int .i64 s.lane.hi, .int .i64 s.bend]] w fun e w' => e = .returned (.int .i64 (chkStrm s)) ∧ Below w.heap.size w w' := by
  have hl := Lib.hid hs.len
  have hn := hs.le
  by_cases hh : headOk s
  · have hh' := Lib.hid hh
    obtain ⟨g0, g1, g2, g3, g4, g5, g6, g7, g8⟩ := hh
    have g2' : 1 ≤ (n : Int) := by have := hl.out; omega
    have g3' : (n : Int) ≤ 8 := by have := hl.out; omega
    clear g2 g3
    go_enter Tryz.func94, Tryz.ntmps94
    go_wp2_with (first | (go_at_call 20; refine (within_any _ _ _ _).mono ?_; rintro e w' ⟨rfl, rfl⟩) | (go_at_call 133; refine (bound_any s.lane _ _ (by omega) (by omega)).mono ?_; unfold okBnd; rintro e w1 ⟨rfl, hb1⟩; obtain ⟨hc1, hf1⟩ := bcell hb1))
    have hbw : Below w.heap.size w w1 := ((Below.refl _ _).alloc (Nat.le_refl _) _).trans (hb1.mono (by simp))
    clear hc1 hf1 hb1
    go_loopw [31] (fun i wr => ∃ k : Nat, i = .int .i64 k ∧ k ≤ n ∧ okTo s.secs k ∧ Below w.heap.size w wr) (fun i wr => n - (intOf i).toNat)
    case atStart => exact ⟨0, rfl, Nat.zero_le _, by simp [okTo], hbw⟩
    case round =>
      obtain ⟨k, rfl, hk, hok, hb⟩ := hrel
      by_cases hlt : k < n
      · obtain ⟨x, hx⟩ := some_of_lt hl.out hlt
        obtain ⟨b, off, rfl, -, hbl, c0, c1, c2, c3, c4⟩ := (hs.keep hb.size (fun _ _ h => hb.cell h)).sec hx
        replace hx := Lib.hid hx
        clear hs
        by_cases hs1 : 1 ≤ x.len ∧ x.len ≤ 1000 ∧ 0 ≤ x.fol ∧ x.fol ≤ 64 ∧ 0 ≤ x.bird ∧ x.bird ≤ 1000 ∧ 0 ≤ x.drag ∧ x.drag ≤ 1000 ∧ 0 ≤ x.cap ∧ x.cap ≤ 1073741824
        · have ho := Lib.hid (okSec_of hs1)
          obtain ⟨g0, g1, g2, g3, g4, g5, g6, g7, g8, g9⟩ := hs1
          go_wp2_with (go_at_call 20; refine (within_any _ _ _ _).mono ?_; rintro e w' ⟨rfl, rfl⟩)
          go_roundw
          case rel => exact ⟨k + 1, by go_num, by omega, okTo_succ hok hx.out ho.out, hb.alloc hb.size _⟩
          case measure => simp [intOf]; omega
        · have ho := Lib.hid (okSec_not hs1)
          replace hs1 := Lib.hid hs1
          go_wp2_with (go_at_call 20; refine (within_any _ _ _ _).mono ?_; rintro e w' ⟨rfl, rfl⟩)
          all_goals first
            | (go_ret; exact ⟨ret_int (chk_bad hx.out ho.out).symm, hb.alloc hb.size _⟩)
            | (exfalso; refine hs1.out ?_; simp at *; omega)
      · go_wp2
        go_ret
        have hkn : k = s.secs.length := by have := hl.out; omega
        exact ⟨ret_int (chk_ok hh'.out (hkn ▸ hok)).symm, hb⟩
  · have hh' := Lib.hid hh
    clear hh
    go_enter Tryz.func94, Tryz.ntmps94
    go_wp2_with (first | (go_at_call 20; refine (within_any _ _ _ _).mono ?_; rintro e w' ⟨rfl, rfl⟩) | (go_at_call 133; refine (bound_any s.lane _ _ (by omega) (by omega)).mono ?_; unfold okBnd; rintro e w1 ⟨rfl, hb1⟩; obtain ⟨hc1, hf1⟩ := bcell hb1))
    all_goals first
      | (go_ret; exact ⟨ret_int (chk_head hh'.out).symm, by first | exact ((Below.refl _ _).alloc (Nat.le_refl _) _).trans (hb1.mono (by simp)) | exact (Below.refl _ _).alloc (Nat.le_refl _) _⟩)
      | (exfalso; refine hh'.out ?_; unfold headOk; have := hl.out; simp at *; omega)
end Go.Proofs.YtcmbmmpihiekhaaGreat
namespace Go.Proofs.YtcmbmmpihiekhaaGreat
open Go.RowKit Go.Shelf

theorem ok_sec {s : Strm} (h : okStrm s = true) {i : Nat} (hi : i < s.secs.length) : okSec (s.sec i) = true := by
  unfold okStrm at h
  simp only [Bool.and_eq_true, List.all_eq_true] at h
  refine h.2 _ ?_
  unfold Strm.sec
  rw [List.getD_eq_getElem?_getD, List.getElem?_eq_getElem hi]
  exact List.getElem_mem hi
theorem sec_at (s : Strm) {i : Nat} (hi : i < s.secs.length) : s.secs[i]? = some (s.sec i) := by
  unfold Strm.sec
  rw [List.getD_eq_getElem?_getD, List.getElem?_eq_getElem hi]; rfl
theorem ok_head {s : Strm} (h : okStrm s = true) : headOk s := by
  unfold okStrm at h
  simp only [Bool.and_eq_true, decide_eq_true_eq] at h
  exact h.1

theorem eased_any (s : Strm) (A : Option Addr) (n c B i : Nat) (own bef dr : Int) (w : World) (hs : SlAt w B 5 Sec.cells A n c s.secs) (ho : okStrm s = true) (hi : i < n)
    (h1 : -16384 ≤ own) (h2 : own ≤ 16384) (h3 : -16384 ≤ bef) (h4 : bef ≤ 16384) (h5 : -100 ≤ dr) (h6 : dr ≤ 100) :
    Calls Tryz.prog 105 #[.agg #[.int .i64 s.head, .slice A n c, .int .i64 s.lane.lo, .int .i64 s.lane.hi, .int .i64 s.bend], .int .i64 (i : Int), .int .i64 own, .int .i64 bef, .int .i64 dr] w fun e w' => e = .returned (.int .i64 (eased s (s.sec i) own bef dr)) ∧ Below w.heap.size w w' := by
  have hl := Lib.hid hs.len
  have hsec := ok_sec ho (i := i) (by have := hl.out; omega)
  obtain ⟨b, off, rfl, -, hbl, c0, c1, c2, c3, c4⟩ := hs.sec (sec_at s (i := i) (by have := hl.out; omega))
  obtain ⟨g0, g1, g2, g3, g4, g5, g6, g7, g8⟩ := ok_head ho
  clear g0 g1 g2 g3 hs ho
  generalize s.sec i = x at *
  unfold okSec at hsec
  obtain ⟨k0, k1, k2, k3, k4, k5, k6, k7, k8, k9⟩ := of_decide_eq_true hsec
  clear hsec k0 k1 k6 k7 k8 k9
  obtain ⟨m1, m2⟩ := mul_bd (64 - x.fol) own 64 16384 (by omega) (by omega) (by omega) (by omega) (by omega)
  obtain ⟨m3, m4⟩ := mul_bd x.fol bef 64 16384 (by omega) (by omega) (by omega) (by omega) (by omega)
  go_enter Tryz.func105, Tryz.ntmps105
  go_wp2_with (go_at_call 136; refine (down_any _ _ (by omega) (by omega)).mono ?_; rintro e w' ⟨rfl, rfl⟩)
  all_goals
    go_ret
    refine ⟨ret_int ?_, ((Below.refl _ _).alloc (Nat.le_refl _) _).alloc (by simp) _⟩
    simp only [eased]
    generalize ((64 - x.fol) * own + x.fol * bef) / 64 + dr = q at *
    repeat' split
    all_goals omega

/-! What Step hands to each: captured are the streamer and the drifts. -/
theorem step1_any (s : Strm) (A O : Option Addr) (n c no co B B2 bs bd i : Nat) (dr : List Int) (own bef : Int) (w : World) (hs : SlAt w B 5 Sec.cells A n c s.secs) (ho : okStrm s = true)
    (hd : SlAt w B2 1 ivs O no co dr) (hdl : no = n) (hdb : dr.all (okNum 100) = true)
    (hbs : ∀ j, w.cell? ⟨bs, j, none⟩ = #[Value.int .i64 s.head, .slice A n c, .int .i64 s.lane.lo, .int .i64 s.lane.hi, .int .i64 s.bend][j]?)
    (hbd : w.cell? ⟨bd, 0, none⟩ = some (.slice O no co)) (hi : i < n)
    (h1 : -16384 ≤ own) (h2 : own ≤ 16384) (h3 : -16384 ≤ bef) (h4 : bef ≤ 16384) :
    Calls Tryz.prog 122 #[.int .i64 (i : Int), .int .i64 own, .int .i64 bef, .pointer (some ⟨bs, 0, none⟩), .pointer (some ⟨bd, 0, none⟩)] w fun e w' => e = .returned (.int .i64 (eased s (s.sec i) own bef (dr.getD i 0))) ∧ Below w.heap.size w w' := by
  subst hdl
  have hl := Lib.hid hs.len
  have hdl := Lib.hid hd.len
  have hn := hd.le
  obtain ⟨q1, q2⟩ := getD_bd hdb (by omega) i
  obtain ⟨bb, off, rfl, -, hbl, c0⟩ := hd.int (get_getD (l := dr) (i := i) 0 (by have := hdl.out; omega))
  generalize dr.getD i 0 = q at *
  have b0 := hbs 0
  have b1 := hbs 1
  have b2 := hbs 2
  have b3 := hbs 3
  have b4 := hbs 4
  simp at b0 b1 b2 b3 b4
  clear hbs hd hdb
  have hbsl : bs < w.heap.size := World.block_lt_of_cell? w ⟨bs, 0, none⟩ b0
  have hbdl : bd < w.heap.size := World.block_lt_of_cell? w ⟨bd, 0, none⟩ hbd
  have hi' : (i : Int) < (no : Int) := by omega
  have hi0 : (0 : Int) ≤ (i : Int) := by omega
  go_enter Tryz.func122, Tryz.ntmps122
  go_wp2
  go_region_held3 (fun w' => w'.cell? ⟨bs, 0, none⟩ = some (.int .i64 s.head) ∧ w'.cell? ⟨bs, 1, none⟩ = some (.slice A no c) ∧ w'.cell? ⟨bs, 2, none⟩ = some (.int .i64 s.lane.lo) ∧ w'.cell? ⟨bs, 3, none⟩ = some (.int .i64 s.lane.hi) ∧ w'.cell? ⟨bs, 4, none⟩ = some (.int .i64 s.bend) ∧ w'.cell? ⟨bd, 0, none⟩ = some (.slice (some ⟨bb, off, none⟩) no co) ∧ w'.cell? ⟨bb, off + i, none⟩ = some (.int .i64 q)) (first | exact ⟨(hc bs 0 hbsl).trans b0, (hc bs 1 hbsl).trans b1, (hc bs 2 hbsl).trans b2, (hc bs 3 hbsl).trans b3, (hc bs 4 hbsl).trans b4, (hc bd 0 hbdl).trans hbd, (hc bb (off + i) hbl).trans c0⟩ | go_keep)
    (first | (go_at_call 105; refine (eased_any s A no c B i own bef q _ (hs.drewN _) ho hi h1 h2 h3 h4 q1 q2).mono ?_; rintro e w' ⟨rfl, hb⟩; obtain ⟨hc, hf⟩ := bcell hb))
  go_wp2
  go_ret
  exact ⟨rfl, below_of_drewN hb⟩
theorem eg_step1 : Enters Tryz.prog 122 := enters_of Tryz.func122 (by kernel_rfl) rfl

/-! each: a new value for each section of its own one and the one before it. -/
theorem eachL_length {α β : Type} (f : Nat → α → α → β) (h : α) (l : List α) : (eachL f h l).length = l.length := by simp [eachL]
theorem eachL_get {α β : Type} (f : Nat → α → α → β) (h : α) (l : List α) {i : Nat} (hi : i < l.length) : (eachL f h l)[i]? = some (f i (l.getD i h) (prev h l i)) := by
  simp [eachL, hi]
/-- What is handed to each is at every index and every own and former value, in every later world, a number. -/
def FnInt (g : Nat) (lb : Array Value) (f : Nat → Int → Int → Int) (l : List Int) (h : Int) (w : World) : Prop :=
  ∀ (W : World) (i : Nat), Below w.heap.size w W → i < l.length → Calls Tryz.prog g (#[.int .i64 (i : Int), .int .i64 (l.getD i h), .int .i64 (prev h l i)] ++ lb) W fun e w' => e = .returned (.int .i64 (f i (l.getD i h) (prev h l i))) ∧ Below W.heap.size W w'
theorem eachint_any (f : Nat → Int → Int → Int) (l : List Int) (h : Int) (A : Option Addr) (n c B g : Nat) (lb : Array Value) (eg : ∀ args w, (callFunc g args).run Tryz.prog w = .ok (.enter g args) w) (w : World)
    (hf : FnInt g lb f l h w) (hs : SlAt w B 1 ivs A n c l) :
    Calls Tryz.prog 121 #[.slice A n c, .int .i64 h, .func (.func g) #[] lb] w fun e w' => ∃ O co, e = .returned (.slice O n co) ∧ SlAt w' w.heap.size 1 ivs O n co (eachL f h l) ∧ Below w.heap.size w w' := by
  have hn := Lib.hid hs.le
  have hl := Lib.hid hs.len
  obtain ⟨i0, hi0, hz0, hz1, hz2⟩ := info_parts Tryz.infoInt
  have hc1 := Lib.hid (show i0.bytes * n ≤ 281474976710656 by have := hn.out; rw [hz2]; omega)
  have hc2 := Lib.hid (show n ≤ maxLen by have := hn.out; unfold maxLen; omega)
  go_enter Tryz.func121, Tryz.ntmps121
  go_wp2_with (at_make; refine wpList_make_full _ rfl _ _ 33 rfl w.heap.size 3 i0 (.int .i64 0) 1 Tryz.underlying33 hi0 hz0 hz1 _ _ _ _ n rfl rfl rfl rfl hc1.out hc2.out (Nat.le_refl _) ?_; intro w1 hown hgrow)
  have hL : (eachL f h l).length = n := by rw [eachL_length, hl.out]
  have hown0 : w1.ownsRow w.heap.size 3 1 (.slice (some ⟨w.heap.size, 0, none⟩) n n) n ((fillTo (eachL f h l) 0 0).map (Value.int .i64)) := by
    rw [fillTo_zero, hL, List.map_replicate]
    rw [madeCells_int] at hown
    exact hown
  have hb1 : Below w.heap.size w w1 := (Below.refl _ _).grown hgrow (Nat.le_refl _) (fun k e => by cases e)
  have hL' := Lib.hid hL
  clear hown hgrow hL hz0 hz1 hz2 hi0
  have hn' := hn.out
  go_loopw [8, 17] (fun v i wr => ∃ k : Nat, i = .int .i64 k ∧ k ≤ n ∧ v = .int .i64 (prev h l k) ∧ wr.ownsRow w.heap.size 3 1 (.slice (some ⟨w.heap.size, 0, none⟩) n n) n ((fillTo (eachL f h l) k 0).map (Value.int .i64)) ∧ Below w.heap.size w wr) (fun v i wr => n - (intOf i).toNat)
  case atStart => exact ⟨0, rfl, Nat.zero_le _, rfl, hown0, hb1⟩
  case round =>
    obtain ⟨k, rfl, hk, rfl, hown, hb⟩ := hrel
    by_cases hlt : k < n
    · have hcall := hf wr k hb (by have := hl.out; omega)
      have hget := Lib.hid (eachL_get f h l (i := k) (by have := hl.out; omega))
      obtain ⟨b, off, rfl, -, hbl, c0⟩ := (hs.keep hb.size (fun _ _ h => hb.cell h)).int (getD_get (l := l) h (i := k) (by have := hl.out; omega))
      have hpk : Hid (prev h l (k + 1) = l.getD k h) := rfl
      generalize f k (l.getD k h) (prev h l k) = z at hget hcall
      generalize prev h l k = y at hcall ⊢
      generalize l.getD k h = x at hcall c0 hpk
      clear hs hf
      go_wp2_with (go_at_fn g; refine hcall.mono ?_; rintro e w' ⟨rfl, hb'⟩; have hown2 := ownsRow_below hown hb'; obtain ⟨v0, hcc⟩ := own_cell hown2 (j := k) (by omega); have hfr := hown2.frozenAt k)
      have hown3 := (hown2.stored k (.int .i64 z)).1
      rw [← List.map_set, fillTo_set hget.out] at hown3
      go_roundw
      case rel => exact ⟨k + 1, by go_num, by omega, by rw [hpk.out], hown3, (hb.trans (hb'.mono hb.size)).setCell (p := ⟨w.heap.size, k, none⟩) (Nat.le_refl _) _⟩
      case measure => simp [intOf]; omega
    · obtain rfl : k = n := by omega
      go_wp2
      go_ret
      obtain ⟨O, co, e1, h1⟩ := SlAt.of_own (enc := ivs) hown hn' (eachL f h l) (by rw [flatMap_ivs, fillTo_len 0 hL'.out]) (fun _ => rfl) hL'.out
      exact ⟨O, co, congrArg Ending.returned e1, h1, hb⟩

/-! Step -/
theorem prev_bd {l : List Int} {h m : Int} (hl : l.all (okNum m) = true) (h1 : -m ≤ h) (h2 : h ≤ m) (k : Nat) : -m ≤ prev h l k ∧ prev h l k ≤ m := by
  cases k with
  | zero => exact ⟨h1, h2⟩
  | succ k =>
    show -m ≤ l.getD k h ∧ l.getD k h ≤ m
    rw [List.getD_eq_getElem?_getD]
    by_cases hi : k < l.length
    · rw [List.getElem?_eq_getElem hi]
      have := List.all_eq_true.1 hl _ (List.getElem_mem hi)
      simpa [okNum] using this
    · rw [List.getElem?_eq_none (by omega)]
      exact ⟨h1, h2⟩
theorem getDh_bd {l : List Int} {h m : Int} (hl : l.all (okNum m) = true) (h1 : -m ≤ h) (h2 : h ≤ m) (k : Nat) : -m ≤ l.getD k h ∧ l.getD k h ≤ m := prev_bd hl h1 h2 (k + 1)
theorem okNums_len {s : Strm} {l : List Int} {m : Int} (h : okNums s l m = true) : l.length = s.secs.length := by
  unfold okNums at h; simp only [Bool.and_eq_true, decide_eq_true_eq] at h; exact h.1
theorem okNums_all {s : Strm} {l : List Int} {m : Int} (h : okNums s l m = true) : l.all (okNum m) = true := by
  unfold okNums at h; simp only [Bool.and_eq_true] at h; exact h.2
theorem Step_any (s : Strm) (A O D : Option Addr) (n c no co nd cd B1 B2 B3 : Nat) (o d : List Int) (w : World) (hs : SlAt w B1 5 Sec.cells A n c s.secs) (ho : SlAt w B2 1 ivs O no co o) (hd : SlAt w B3 1 ivs D nd cd d) :
    Calls Tryz.prog 63 #[.agg #[.int .i64 s.head, .slice A n c, .int .i64 s.lane.lo, .int .i64 s.lane.hi, .int .i64 s.bend], .slice O no co, .slice D nd cd] w (RetSl 1 ivs (stepR s o d) w) := by
  have hl := hs.len
  cases hs1 : okStrm s
  · have hv : stepR s o d = ([], 30) := by simp [stepR, hs1]
    have hk : chkStrm s = 30 := by simp [chkStrm, hs1]
    rw [hv]
    clear hs1 hv hl
    replace hk := Lib.hid hk
    go_enter Tryz.func63, Tryz.ntmps63
    go_wp2_with (go_at_call 94; refine (check_any s A n c B1 _ ((hs.alloc _).alloc _)).mono ?_; rw [hk.out]; rintro e w1 ⟨rfl, hb1⟩; obtain ⟨hc1, hf1⟩ := bcell hb1)
    go_ret2
    exact RetSl.none_ ((((Below.refl _ _).alloc (Nat.le_refl _) _).alloc (by simp) _).trans (hb1.mono (by simp; omega)))
  · have hk : chkStrm s = 0 := by simp [chkStrm, hs1]
    replace hk := Lib.hid hk
    cases hn1 : okNums s o 16384
    · have hv : stepR s o d = ([], 31) := by simp [stepR, hs1, hn1]
      rw [hv]
      clear hs1 hv
      replace hn1 := Lib.hid hn1
      have hl' := Lib.hid hl
      clear hl
      go_enter Tryz.func63, Tryz.ntmps63
      go_wp2_with fail
      refine (check_any s A _ c B1 _ ((hs.alloc _).alloc _)).mono ?_; rw [hk.out]; rintro e w1 ⟨rfl, hb1⟩
      have k3 := ((Blk.new w _ _).alloc _).below hb1
      have k5 := (Blk.new _ _ _).below hb1
      rw [World.size_alloc] at k5
      obtain ⟨c3, f3, l3⟩ := k3.rules
      obtain ⟨c5, f5, l5⟩ := k5.rules
      have b1 := (((Below.refl w.heap.size w).alloc (Nat.le_refl _) _).alloc (by simp) _).trans (hb1.mono (by simp; omega))
      go_wp2_with fail
      refine (numbers_any s A O n c no co B2 o 16384 _ (by omega) (by omega) hl'.out ((((ho.alloc _).alloc _).below hb1).alloc _)).mono ?_; rw [hn1.out]; rintro e w2 ⟨rfl, hb2⟩
      go_wp2
      go_ret2
      exact RetSl.none_ (b1.trans (((Below.refl _ _).alloc b1.size _).trans (hb2.mono (by have := b1.size; simp; omega))))
    · cases hn2 : okNums s d 100
      · have hv : stepR s o d = ([], 32) := by simp [stepR, hs1, hn1, hn2]
        rw [hv]
        clear hs1 hv
        replace hn1 := Lib.hid hn1
        replace hn2 := Lib.hid hn2
        have hl' := Lib.hid hl
        clear hl
        go_enter Tryz.func63, Tryz.ntmps63
        go_wp2_with fail
        refine (check_any s A _ c B1 _ ((hs.alloc _).alloc _)).mono ?_; rw [hk.out]; rintro e w1 ⟨rfl, hb1⟩
        have k3 := ((Blk.new w _ _).alloc _).below hb1
        have k5 := (Blk.new _ _ _).below hb1
        rw [World.size_alloc] at k5
        obtain ⟨c3, f3, l3⟩ := k3.rules
        obtain ⟨c5, f5, l5⟩ := k5.rules
        have b1 := (((Below.refl w.heap.size w).alloc (Nat.le_refl _) _).alloc (by simp) _).trans (hb1.mono (by simp; omega))
        go_wp2_with fail
        refine (numbers_any s A O n c no co B2 o 16384 _ (by omega) (by omega) hl'.out ((((ho.alloc _).alloc _).below hb1).alloc _)).mono ?_; rw [hn1.out]; rintro e w2 ⟨rfl, hb2⟩
        have k9 := (Blk.new w1 _ _).below hb2
        replace k5 := (k5.alloc _).below hb2
        clear c3 f3 l3 c5 f5 l5
        obtain ⟨c9, f9, l9⟩ := k9.rules
        obtain ⟨c5, f5, l5⟩ := k5.rules
        have b2 := b1.trans (((Below.refl _ _).alloc b1.size _).trans (hb2.mono (by have := b1.size; simp; omega)))
        go_wp2_with fail
        refine (numbers_any s A D n c nd cd B3 d 100 _ (by omega) (by omega) hl'.out (((((hd.alloc _).alloc _).below hb1).alloc _).below hb2)).mono ?_; rw [hn2.out]; rintro e w3 ⟨rfl, hb3⟩
        go_wp2
        go_ret2
        exact RetSl.none_ (b2.trans (hb3.mono b2.size))
      · have hv : stepR s o d = (stepL s o d, 0) := by simp [stepR, hs1, hn1, hn2]
        rw [hv]
        clear hv
        have ol := okNums_len hn1
        have dl := okNums_len hn2
        have oa := okNums_all hn1
        have da := okNums_all hn2
        have hh := ok_head hs1
        replace hs1 := Lib.hid hs1
        replace hn1 := Lib.hid hn1
        replace hn2 := Lib.hid hn2
        have hl' := Lib.hid hl
        replace oa := Lib.hid oa
        replace da := Lib.hid da
        replace hh := Lib.hid hh
        obtain rfl : no = n := by have := ho.len; omega
        obtain rfl : nd = no := by have := hd.len; omega
        clear hl ol dl
        go_enter Tryz.func63, Tryz.ntmps63
        go_wp2_with fail
        refine (check_any s A _ c B1 _ ((hs.alloc _).alloc _)).mono ?_; rw [hk.out]; rintro e w1 ⟨rfl, hb1⟩
        have k3 := ((Blk.new w _ _).alloc _).below hb1
        have k5 := (Blk.new _ _ _).below hb1
        rw [World.size_alloc] at k5
        obtain ⟨c3, f3, l3⟩ := k3.rules
        obtain ⟨c5, f5, l5⟩ := k5.rules
        have b1 := (((Below.refl w.heap.size w).alloc (Nat.le_refl _) _).alloc (by simp) _).trans (hb1.mono (by simp; omega))
        go_wp2_with fail
        refine (numbers_any s A O _ c _ co B2 o 16384 _ (by omega) (by omega) hl'.out ((((ho.alloc _).alloc _).below hb1).alloc _)).mono ?_; rw [hn1.out]; rintro e w2 ⟨rfl, hb2⟩
        have k9 := (Blk.new w1 _ _).below hb2
        replace k5 := (k5.alloc _).below hb2
        replace k3 := (k3.alloc _).below hb2
        clear c3 f3 l3 c5 f5 l5
        obtain ⟨c9, f9, l9⟩ := k9.rules
        obtain ⟨c5, f5, l5⟩ := k5.rules
        have b2 := b1.trans (((Below.refl _ _).alloc b1.size _).trans (hb2.mono (by have := b1.size; simp; omega)))
        go_wp2_with fail
        refine (numbers_any s A D _ c _ cd B3 d 100 _ (by omega) (by omega) hl'.out (((((hd.alloc _).alloc _).below hb1).alloc _).below hb2)).mono ?_; rw [hn2.out]; rintro e w3 ⟨rfl, hb3⟩
        replace k9 := k9.below hb3
        replace k5 := k5.below hb3
        replace k3 := k3.below hb3
        clear c9 f9 l9 c5 f5 l5
        obtain ⟨c3, f3, l3⟩ := k3.rules
        obtain ⟨c5, f5, l5⟩ := k5.rules
        obtain ⟨c9, f9, l9⟩ := k9.rules
        have b3 := b2.trans (hb3.mono b2.size)
        go_wp2_with fail
        have hh1 : -16384 ≤ s.head ∧ s.head ≤ 16384 := by have := hh.out; unfold headOk at this; omega
        have hfn : FnInt 122 #[.pointer (some ⟨w1.heap.size, 0, none⟩), .pointer (some ⟨w.heap.size + 1, 0, none⟩)] (fun i own bef => eased s (s.sec i) own bef (d.getD i 0)) o s.head w3 := by
          intro W i hb hi
          have hol : o.length = nd := ho.len
          obtain ⟨q1, q2⟩ := getDh_bd oa.out hh1.1 hh1.2 i
          obtain ⟨q3, q4⟩ := prev_bd oa.out hh1.1 hh1.2 i
          exact step1_any s A D nd c nd cd B1 B3 w1.heap.size (w.heap.size + 1) i d _ _ W (((((((hs.alloc _).alloc _).below hb1).alloc _).below hb2).below hb3).below hb) hs1.out (((((((hd.alloc _).alloc _).below hb1).alloc _).below hb2).below hb3).below hb) rfl da.out
            (k9.below hb).cell ((k5.below hb).cell 0) (by omega) q1 q2 q3 q4
        clear c3 f3 l3 c5 f5 l5 c9 f9 l9 k3 k5 k9
        refine (eachint_any _ o s.head O nd co B2 _ _ eg_step1 w3 hfn ((((((ho.alloc _).alloc _).below hb1).alloc _).below hb2).below hb3)).mono ?_
        rintro e w4 ⟨O', co', rfl, hr, hb4⟩
        go_wp2
        go_ret2
        exact ⟨O', nd, co', rfl, (show SlAt w4 w.heap.size 1 ivs O' nd co' (stepL s o d) from hr.mono b3.size), b3.trans (hb4.mono b3.size)⟩
end Go.Proofs.YtcmbmmpihiekhaaGreat
namespace Go.Proofs.YtcmbmmpihiekhaaGreat
open Go.RowKit Go.Shelf

/-- What is handed to each is at every index, and every own and former bound, in every later world, a bound. -/
def FnBnd (g : Nat) (lb : Array Value) (f : Nat → Bnd → Bnd → Bnd) (l : List Bnd) (h : Bnd) (w : World) : Prop :=
  ∀ (W : World) (i : Nat), Below w.heap.size w W → i < l.length → Calls Tryz.prog g (#[.int .i64 (i : Int), .agg #[.int .i64 (l.getD i h).lo, .int .i64 (l.getD i h).hi], .agg #[.int .i64 (prev h l i).lo, .int .i64 (prev h l i).hi]] ++ lb) W fun e w' =>
    e = .returned (.agg #[.int .i64 (f i (l.getD i h) (prev h l i)).lo, .int .i64 (f i (l.getD i h) (prev h l i)).hi]) ∧ Below W.heap.size W w'
/-- A row of bounds of the call's own. -/
def OwnBnds (w0 : World) (n : Nat) (L : List Bnd) (e : Ending) (w' : World) : Prop :=
  ∃ O co, e = .returned (.slice O n co) ∧ w'.ownsRow w0.heap.size 26 2 (.slice O n co) n (L.flatMap Bnd.cells) ∧ SlAt w' w0.heap.size 2 Bnd.cells O n co L ∧ Below w0.heap.size w0 w'
theorem OwnBnds.lift {w w1 w' : World} {n : Nat} {L : List Bnd} {e : Ending} (h : OwnBnds w1 n L e w') (hb : Below w.heap.size w w1) : OwnBnds w n L e w' := by
  obtain ⟨O, co, rfl, hown, hr, hb2⟩ := h
  exact ⟨O, co, rfl, ownsRow_base hown hb.size, hr.mono hb.size, hb.trans (hb2.mono hb.size)⟩
theorem eachbnd_any (f : Nat → Bnd → Bnd → Bnd) (l : List Bnd) (h : Bnd) (A : Option Addr) (n c B g : Nat) (lb : Array Value) (eg : ∀ args w, (callFunc g args).run Tryz.prog w = .ok (.enter g args) w) (w : World)
    (hf : FnBnd g lb f l h w) (hs : SlAt w B 2 Bnd.cells A n c l) :
    Calls Tryz.prog 100 #[.slice A n c, .agg #[.int .i64 h.lo, .int .i64 h.hi], .func (.func g) #[] lb] w (OwnBnds w n (eachL f h l)) := by
  have hn := Lib.hid hs.le
  have hl := Lib.hid hs.len
  obtain ⟨i0, hi0, hz0, hz1, hz2⟩ := info_parts Tryz.infoBnd
  have hc1 := Lib.hid (show i0.bytes * n ≤ 281474976710656 by have := hn.out; rw [hz2]; omega)
  have hc2 := Lib.hid (show n ≤ maxLen by have := hn.out; unfold maxLen; omega)
  go_enter Tryz.func100, Tryz.ntmps100
  go_wp2_with (at_make; refine wpList_make_full _ rfl _ _ 29 rfl w.heap.size 26 i0 (.agg #[.int .i64 0, .int .i64 0]) 2 Tryz.underlying29 hi0 hz0 hz1 _ _ _ _ n rfl rfl rfl rfl hc1.out hc2.out (by simp) ?_; intro w1 hown hgrow; have k4 := (Blk.new w _ _).grown hgrow (by simp); obtain ⟨c4, f4, l4⟩ := k4.rules)
  have hL : (eachL f h l).length = n := by rw [eachL_length, hl.out]
  rw [World.size_alloc] at hown
  have hown0 : w1.ownsRow w.heap.size 26 2 (.slice (some ⟨w.heap.size + 1, 0, none⟩) n n) n ((fillTo (eachL f h l) 0 ⟨0, 0⟩).flatMap Bnd.cells) := by
    rw [fillTo_zero, hL]
    rw [madeCells_bnd] at hown
    exact hown
  have hb1 : Below w.heap.size w w1 := ((Below.refl _ _).alloc (Nat.le_refl _) _).grown hgrow (by simp) (fun k e => by cases e)
  have hlt1 : w.heap.size + 1 < w1.heap.size := (hown.lt _ rfl).2
  have hL' := Lib.hid hL
  clear hown hgrow hL hz0 hz1 hz2 hi0 c4 f4 l4 k4
  have hn' := hn.out
  go_loopw [17] (fun i wr => ∃ k : Nat, i = .int .i64 k ∧ k ≤ n ∧ Blk wr w1.heap.size 26 #[.int .i64 (prev h l k).lo, .int .i64 (prev h l k).hi] ∧ wr.ownsRow w.heap.size 26 2 (.slice (some ⟨w.heap.size + 1, 0, none⟩) n n) n ((fillTo (eachL f h l) k ⟨0, 0⟩).flatMap Bnd.cells) ∧ Below w.heap.size w wr) (fun i wr => n - (intOf i).toNat)
  case atStart =>
    exact ⟨0, rfl, Nat.zero_le _, Blk.new _ _ _, hown0.alloc _, hb1.alloc hb1.size _⟩
  case round =>
    obtain ⟨k, rfl, hk, k8, hown, hb⟩ := hrel
    by_cases hlt : k < n
    · have hcall := fun W (h : Below w.heap.size w W) => hf W k h (by have := hl.out; omega)
      have hget := Lib.hid (eachL_get f h l (i := k) (by have := hl.out; omega))
      obtain ⟨b, off, rfl, -, hbl, c0, c1⟩ := (hs.keep hb.size (fun _ _ h => hb.cell h)).bnd (getD_get (l := l) h (i := k) (by have := hl.out; omega))
      have hpk : Hid (prev h l (k + 1) = l.getD k h) := rfl
      obtain ⟨c8, f8, l8⟩ := k8.rules
      generalize f k (l.getD k h) (prev h l k) = z at hget hcall
      generalize prev h l k = y at hcall k8 c8
      generalize l.getD k h = x at hcall c0 c1 hpk
      have n1 : ¬ wr.heap.size = w.heap.size + 1 := by omega
      have n2 : ¬ wr.heap.size = w1.heap.size := by omega
      have n3 : ¬ w1.heap.size = w.heap.size + 1 := by omega
      have n1' : ¬ w.heap.size + 1 = wr.heap.size := by omega
      have n2' : ¬ w1.heap.size = wr.heap.size := by omega
      have n3' : ¬ w.heap.size + 1 = w1.heap.size := by omega
      clear hs hf
      go_wp2_with fail
      refine (hcall _ (hb.alloc hb.size _)).mono ?_
      clear hcall c0 c1 c8 f8
      rintro e w' ⟨rfl, hb'⟩
      have hown2 := ownsRow_below (hown.alloc _) hb'
      obtain ⟨v0, d0⟩ := own_cell hown2 (j := k * 2) (by omega)
      obtain ⟨v1, d1⟩ := own_cell hown2 (j := k * 2 + 1) (by omega)
      have e0 := hown2.frozenAt (k * 2)
      have e1 := hown2.frozenAt (k * 2 + 1)
      have k10 := (Blk.new wr _ _).below hb'
      obtain ⟨c10, f10, l10⟩ := k10.rules
      have k8' := (k8.alloc _).below hb'
      obtain ⟨c8, f8, l8'⟩ := k8'.rules
      go_wp2
      have hown3 := ((hown2.stored (k * 2) (.int .i64 z.lo)).1.stored (k * 2 + 1) (.int .i64 z.hi)).1
      rw [flatMap_set2, fillTo_set hget.out] at hown3
      go_roundw
      case rel =>
        refine ⟨k + 1, by go_num, by omega, ?_, ownsRow_setCell (ownsRow_setCell hown3 (by simp [Value.ownBlock]; omega) _) (by simp [Value.ownBlock]; omega) _, ?_⟩
        · rw [hpk.out]
          have := (((k8'.far (p := ⟨w.heap.size + 1, k * 2, none⟩) n3 (.int .i64 z.lo)).far (p := ⟨w.heap.size + 1, k * 2 + 1, none⟩) n3 (.int .i64 z.hi)).set_ 0 (.int .i64 x.lo)).set_ 1 (.int .i64 x.hi)
          exact this
        · exact (((((hb.alloc hb.size _).trans (hb'.mono (by simp; omega))).setCell (p := ⟨w.heap.size + 1, k * 2, none⟩) (by simp) _).setCell (p := ⟨w.heap.size + 1, k * 2 + 1, none⟩) (by simp) _).setCell (p := ⟨w1.heap.size, 0, none⟩) (by simp; omega) _).setCell (p := ⟨w1.heap.size, 1, none⟩) (by simp; omega) _
      case measure => simp [intOf]; omega
    · obtain rfl : k = n := by omega
      go_wp2
      go_ret
      rw [fillTo_len _ hL'.out] at hown
      obtain ⟨O, co, e1, h1⟩ := SlAt.of_own (enc := Bnd.cells) hown hn' (eachL f h l) rfl (fun _ => rfl) hL'.out
      exact ⟨O, co, congrArg Ending.returned e1, e1 ▸ hown, h1, hb⟩

theorem still_any (m : Int) (w : World) :
    Calls Tryz.prog 101 #[.int .i64 m] w fun e w' => e = .returned (.agg #[.int .i64 (still m).lo, .int .i64 (still m).hi]) ∧ Below w.heap.size w w' := by
  go_enter Tryz.func101, Tryz.ntmps101
  go_wp2
  exact bodyPost_ret (v := .agg #[.int .i64 m, .int .i64 m]) (by simp [results, Tryz.results101, go_sem]) rfl ⟨rfl, (Below.refl _ _).alloc (Nat.le_refl _) _⟩
theorem bends1_any (i : Int) (own bef : Bnd) (w : World) (h1 : -16384 ≤ own.lo) (h2 : own.lo ≤ own.hi) (h3 : own.hi ≤ 16384) (h4 : -16384 ≤ bef.lo) (h5 : bef.lo ≤ bef.hi) (h6 : bef.hi ≤ 16384) :
    Calls Tryz.prog 107 #[.int .i64 i, .agg #[.int .i64 own.lo, .int .i64 own.hi], .agg #[.int .i64 bef.lo, .int .i64 bef.hi]] w fun e w' => e = .returned (.agg #[.int .i64 (bendB own bef).lo, .int .i64 (bendB own bef).hi]) ∧ Below w.heap.size w w' := by
  go_enter Tryz.func107, Tryz.ntmps107
  go_wp2
  all_goals
    refine bodyPost_ret (v := .agg #[.int .i64 (bendB own bef).lo, .int .i64 (bendB own bef).hi]) ?_ rfl ⟨rfl, (((Below.refl _ _).alloc (Nat.le_refl _) _).alloc (by simp) _).alloc (by simp; omega) _⟩
    simp [results, Tryz.results107, go_sem, bendB]
    omega
theorem endslo_any (b : Bnd) (w : World) :
    Calls Tryz.prog 103 #[.agg #[.int .i64 b.lo, .int .i64 b.hi]] w fun e w' => e = .returned (.int .i64 b.lo) ∧ Below w.heap.size w w' := by
  go_enter Tryz.func103, Tryz.ntmps103
  go_wp2
  go_ret
  exact ⟨rfl, (Below.refl _ _).alloc (Nat.le_refl _) _⟩
theorem endshi_any (b : Bnd) (w : World) :
    Calls Tryz.prog 104 #[.agg #[.int .i64 b.lo, .int .i64 b.hi]] w fun e w' => e = .returned (.int .i64 b.hi) ∧ Below w.heap.size w w' := by
  go_enter Tryz.func104, Tryz.ntmps104
  go_wp2
  go_ret
  exact ⟨rfl, (Below.refl _ _).alloc (Nat.le_refl _) _⟩

def okB (b : Bnd) : Prop := -16384 ≤ b.lo ∧ b.lo ≤ b.hi ∧ b.hi ≤ 16384
theorem okB_of {l : List Bnd} {h : Bnd} (hl : l.all (okBnd 16384) = true) (hh : okB h) (k : Nat) : okB (l.getD k h) := by
  rw [List.getD_eq_getElem?_getD]
  by_cases hi : k < l.length
  · rw [List.getElem?_eq_getElem hi]
    have := List.all_eq_true.1 hl _ (List.getElem_mem hi)
    simpa [okBnd, okB] using this
  · rw [List.getElem?_eq_none (by omega)]
    exact hh
theorem okB_prev {l : List Bnd} {h : Bnd} (hl : l.all (okBnd 16384) = true) (hh : okB h) (k : Nat) : okB (prev h l k) := by
  cases k with
  | zero => exact hh
  | succ k => exact okB_of hl hh k
theorem okB_still {s : Strm} (h : headOk s) : okB (still s.head) := by unfold headOk at h; unfold okB still; simp only; omega
theorem okOffs_len {s : Strm} {l : List Bnd} (h : okOffs s l = true) : l.length = s.secs.length := by
  unfold okOffs at h; simp only [Bool.and_eq_true, decide_eq_true_eq] at h; exact h.1
theorem okOffs_all {s : Strm} {l : List Bnd} (h : okOffs s l = true) : l.all (okBnd 16384) = true := by
  unfold okOffs at h; simp only [Bool.and_eq_true] at h; exact h.2
theorem eg_bends1 : Enters Tryz.prog 107 := enters_of Tryz.func107 (by kernel_rfl) rfl
theorem bends_any (s : Strm) (A O : Option Addr) (n c no co B : Nat) (l : List Bnd) (w : World) (ho : headOk s) (hl : l.all (okBnd 16384) = true) (hs : SlAt w B 2 Bnd.cells O no co l) :
    Calls Tryz.prog 55 #[.agg #[.int .i64 s.head, .slice A n c, .int .i64 s.lane.lo, .int .i64 s.lane.hi, .int .i64 s.bend], .slice O no co] w (OwnBnds w no (bendL s l)) := by
  replace ho := Lib.hid ho
  replace hl := Lib.hid hl
  go_enter Tryz.func55, Tryz.ntmps55
  go_wp2_with fail
  refine (still_any s.head _).mono ?_; rintro e w1 ⟨rfl, hb1⟩
  have b1 := ((Below.refl w.heap.size w).alloc (Nat.le_refl _) _).trans (hb1.mono (by simp))
  go_wp2_with fail
  have hfn : FnBnd 107 #[] (fun _ own bef => bendB own bef) l (still s.head) w1 := by
    intro W i hb hi
    obtain ⟨q1, q2, q3⟩ := okB_of hl.out (okB_still ho.out) i
    obtain ⟨q4, q5, q6⟩ := okB_prev hl.out (okB_still ho.out) i
    exact bends1_any i _ _ W q1 q2 q3 q4 q5 q6
  refine (eachbnd_any _ l (still s.head) O no co B _ _ eg_bends1 w1 hfn ((hs.alloc _).below hb1)).mono ?_
  rintro e w2 ⟨O', co', rfl, hown, hr, hb2⟩
  go_wp2
  go_ret
  exact OwnBnds.lift ⟨O', co', rfl, hown, hr, hb2⟩ b1

end Go.Proofs.YtcmbmmpihiekhaaGreat
namespace Go.Proofs.YtcmbmmpihiekhaaGreat
open Go.RowKit Go.Shelf
end Go.Proofs.YtcmbmmpihiekhaaGreat
namespace Go.Proofs.YtcmbmmpihiekhaaGreat
open Go.RowKit Go.Shelf
end Go.Proofs.YtcmbmmpihiekhaaGreat
namespace Go.Proofs.YtcmbmmpihiekhaaGreat
open Go.RowKit Go.Shelf

/-! enclosed$1: both ends of the bound after a step -/
theorem boxes_keep {w w' : World} {g3 g6 g7 g4 : Nat} {a b c d : Array Value}
    (h : (∀ i, w.cell? ⟨g3, i, none⟩ = a[i]?) ∧ (∀ i, w.cell? ⟨g6, i, none⟩ = b[i]?) ∧ (∀ i, w.cell? ⟨g7, i, none⟩ = c[i]?) ∧ (∀ i, w.cell? ⟨g4, i, none⟩ = d[i]?) ∧ g3 < w.heap.size ∧ g6 < w.heap.size ∧ g7 < w.heap.size ∧ g4 < w.heap.size)
    (hb : Below w.heap.size w w') :
    (∀ i, w'.cell? ⟨g3, i, none⟩ = a[i]?) ∧ (∀ i, w'.cell? ⟨g6, i, none⟩ = b[i]?) ∧ (∀ i, w'.cell? ⟨g7, i, none⟩ = c[i]?) ∧ (∀ i, w'.cell? ⟨g4, i, none⟩ = d[i]?) ∧ g3 < w'.heap.size ∧ g6 < w'.heap.size ∧ g7 < w'.heap.size ∧ g4 < w'.heap.size := by
  obtain ⟨h1, h2, h3, h4, l1, l2, l3, l4⟩ := h
  have := hb.size
  exact ⟨fun i => (hb.cell (p := ⟨g3, i, none⟩) l1).trans (h1 i), fun i => (hb.cell (p := ⟨g6, i, none⟩) l2).trans (h2 i), fun i => (hb.cell (p := ⟨g7, i, none⟩) l3).trans (h3 i), fun i => (hb.cell (p := ⟨g4, i, none⟩) l4).trans (h4 i), by omega, by omega, by omega, by omega⟩
theorem boxes_set {w : World} {g3 g6 g7 g4 : Nat} {a b c d : Array Value}
    (h : (∀ i, w.cell? ⟨g3, i, none⟩ = a[i]?) ∧ (∀ i, w.cell? ⟨g6, i, none⟩ = b[i]?) ∧ (∀ i, w.cell? ⟨g7, i, none⟩ = c[i]?) ∧ (∀ i, w.cell? ⟨g4, i, none⟩ = d[i]?) ∧ g3 < w.heap.size ∧ g6 < w.heap.size ∧ g7 < w.heap.size ∧ g4 < w.heap.size)
    (p : Addr) (u : Value) (n1 : g3 < p.block) (n2 : g6 < p.block) (n3 : g7 < p.block) (n4 : g4 < p.block) :
    (∀ i, (w.setCell p u).cell? ⟨g3, i, none⟩ = a[i]?) ∧ (∀ i, (w.setCell p u).cell? ⟨g6, i, none⟩ = b[i]?) ∧ (∀ i, (w.setCell p u).cell? ⟨g7, i, none⟩ = c[i]?) ∧ (∀ i, (w.setCell p u).cell? ⟨g4, i, none⟩ = d[i]?) ∧ g3 < (w.setCell p u).heap.size ∧ g6 < (w.setCell p u).heap.size ∧ g7 < (w.setCell p u).heap.size ∧ g4 < (w.setCell p u).heap.size := by
  obtain ⟨h1, h2, h3, h4, l1, l2, l3, l4⟩ := h
  have e : (w.setCell p u).heap.size = w.heap.size := by simp [World.setCell]
  have o : ∀ (g i : Nat), g < p.block → (w.setCell p u).cell? ⟨g, i, none⟩ = w.cell? ⟨g, i, none⟩ := fun g i hg => World.cell?_setCell_other w p ⟨g, i, none⟩ u (fun e => by subst e; simp at hg)
  exact ⟨fun i => (o g3 i n1).trans (h1 i), fun i => (o g6 i n2).trans (h2 i), fun i => (o g7 i n3).trans (h3 i), fun i => (o g4 i n4).trans (h4 i), by omega, by omega, by omega, by omega⟩
theorem enclosed1_any (s : Strm) (A : Option Addr) (n c B i gs gd : Nat) (d own bef : Bnd) (w : World) (hs : SlAt w B 5 Sec.cells A n c s.secs) (ho : okStrm s = true) (hd : okBnd 100 d = true)
    (ks : Blk w gs 79 #[.int .i64 s.head, .slice A n c, .int .i64 s.lane.lo, .int .i64 s.lane.hi, .int .i64 s.bend]) (kd : Blk w gd 26 #[.int .i64 d.lo, .int .i64 d.hi]) (hi : i < n) (h1 : okB own) (h2 : okB bef) :
    Calls Tryz.prog 102 #[.int .i64 (i : Int), .agg #[.int .i64 own.lo, .int .i64 own.hi], .agg #[.int .i64 bef.lo, .int .i64 bef.hi], .pointer (some ⟨gs, 0, none⟩), .pointer (some ⟨gd, 0, none⟩)] w fun e w' => e = .returned (.agg #[.int .i64 (encB s d i own bef).lo, .int .i64 (encB s d i own bef).hi]) ∧ Below w.heap.size w w' := by
  have i0 : ∀ w, (Instr.index 205 (.agg #[.func (.func 103) #[] #[], .func (.func 104) #[] #[]]) (.int .i64 0)).run Tryz.prog w = .ok (.func (.func 103) #[] #[]) w := fun _ => by kernel_rfl
  have i1 : ∀ w, (Instr.index 205 (.agg #[.func (.func 103) #[] #[], .func (.func 104) #[] #[]]) (.int .i64 1)).run Tryz.prog w = .ok (.func (.func 104) #[] #[]) w := fun _ => by kernel_rfl
  go_enter Tryz.func102, Tryz.ntmps102
  have hds := of_decide_eq_true (p := -100 ≤ d.lo ∧ d.lo ≤ d.hi ∧ d.hi ≤ 100) hd
  obtain ⟨hd1, hd2, hd3⟩ := hds
  obtain ⟨p1, p2, p3⟩ := h1
  obtain ⟨p4, p5, p6⟩ := h2
  replace ho := Lib.hid ho
  clear hd
  have hzl : Hid (eased s (s.sec i) own.lo bef.lo d.lo = (encB s d i own bef).lo) := rfl
  have hzh : Hid (eased s (s.sec i) own.hi bef.hi d.hi = (encB s d i own bef).hi) := rfl
  generalize (encB s d i own bef).lo = zl at *
  generalize (encB s d i own bef).hi = zh at *
  go_wp2_with fail
  go_loopw [13] (fun j wr => ((j = .int .i64 0 ∧ Blk wr (w.heap.size + 1 + 1 + 1) 92 #[.int .i64 0, .int .i64 0]) ∨ (j = .int .i64 1 ∧ Blk wr (w.heap.size + 1 + 1 + 1) 92 #[.int .i64 zl, .int .i64 0]) ∨ (j = .int .i64 2 ∧ Blk wr (w.heap.size + 1 + 1 + 1) 92 #[.int .i64 zl, .int .i64 zh])) ∧
      Blk wr w.heap.size 26 #[.int .i64 own.lo, .int .i64 own.hi] ∧ Blk wr (w.heap.size + 1) 26 #[.int .i64 bef.lo, .int .i64 bef.hi] ∧ Blk wr (w.heap.size + 1 + 1) 26 #[.int .i64 0, .int .i64 0] ∧ Below w.heap.size w wr) (fun j wr => 2 - (intOf j).toNat)
  case atStart =>
    refine ⟨.inl ⟨rfl, ?_⟩, ?_, ?_, ?_, ?_⟩
    · have := Blk.new (((w.alloc (.cells #[.int .i64 own.lo, .int .i64 own.hi] 26)).alloc (.cells #[.int .i64 bef.lo, .int .i64 bef.hi] 26)).alloc (.cells #[.int .i64 0, .int .i64 0] 26)) 92 #[.int .i64 0, .int .i64 0]
      simpa using this
    · exact (((Blk.new w _ _).alloc _).alloc _).alloc _
    · have := ((Blk.new (w.alloc (.cells #[.int .i64 own.lo, .int .i64 own.hi] 26)) 26 #[.int .i64 bef.lo, .int .i64 bef.hi]).alloc (.cells #[.int .i64 0, .int .i64 0] 26)).alloc (.cells #[.int .i64 0, .int .i64 0] 92)
      simpa using this
    · have := (Blk.new ((w.alloc (.cells #[.int .i64 own.lo, .int .i64 own.hi] 26)).alloc (.cells #[.int .i64 bef.lo, .int .i64 bef.hi] 26)) 26 #[.int .i64 0, .int .i64 0]).alloc (.cells #[.int .i64 0, .int .i64 0] 92)
      simpa using this
    · exact ((((Below.refl _ _).alloc (Nat.le_refl _) _).alloc (by simp) _).alloc (by simp; omega) _).alloc (by simp; omega) _
  case round =>
    obtain ⟨hj, k6, k7, k8, hb⟩ := hrel
    have ks' := ks.belowB hb ks.lt
    have kd' := kd.belowB hb kd.lt
    have lS := ks.lt
    have lD := kd.lt
    rcases hj with ⟨rfl, k9⟩ | ⟨rfl, k9⟩ | ⟨rfl, k9⟩
    · go_wp2_with fail
      obtain ⟨c3, f3, l3⟩ := ks'.rules
      obtain ⟨c4, f4, l4⟩ := kd'.rules
      obtain ⟨c6, f6, l6⟩ := k6.rules
      obtain ⟨c7, f7, l7⟩ := k7.rules
      go_region_held3 (fun w' => (∀ i, w'.cell? ⟨gs, i, none⟩ = #[Value.int .i64 s.head, .slice A n c, .int .i64 s.lane.lo, .int .i64 s.lane.hi, .int .i64 s.bend][i]?) ∧ (∀ i, w'.cell? ⟨w.heap.size, i, none⟩ = #[Value.int .i64 own.lo, .int .i64 own.hi][i]?) ∧ (∀ i, w'.cell? ⟨w.heap.size + 1, i, none⟩ = #[Value.int .i64 bef.lo, .int .i64 bef.hi][i]?) ∧ (∀ i, w'.cell? ⟨gd, i, none⟩ = #[Value.int .i64 d.lo, .int .i64 d.hi][i]?) ∧ gs < w'.heap.size ∧ w.heap.size < w'.heap.size ∧ w.heap.size + 1 < w'.heap.size ∧ gd < w'.heap.size)
        (first | (with_reducible exact boxes_set (by assumption) _ _ (by dsimp only; omega) (by dsimp only; omega) (by dsimp only; omega) (by dsimp only; omega)) | (with_reducible exact boxes_keep (by assumption) hbx) | (with_reducible exact ⟨c3, c6, c7, c4, l3, l6, l7, l4⟩) | exact ⟨c3, c6, c7, c4, l3, l6, l7, l4⟩ | go_keep)
        (first | (go_at_call 103; refine (endslo_any _ _).mono ?_; rintro e w' ⟨rfl, hbx⟩; (first | (have b9x := b9x.trans (hbx.mono b9x.size)) | (have b9x := below_of_drew hbx))) | (go_at_call 105; have bwx := hb.trans (b9x.mono hb.size); have hsx := hs.keep bwx.size (fun _ _ h => bwx.cell h); refine (eased_any s A n c B i _ _ _ _ hsx ho.out hi (by omega) (by omega) (by omega) (by omega) (by omega) (by omega)).mono ?_; rintro e w' ⟨rfl, hbx⟩; have b9y := b9x.trans (hbx.mono b9x.size); have k9y := k9.below b9y; obtain ⟨c9, f9, l9⟩ := k9y.rules))
      have k6y := k6.below b9y
      have k7y := k7.below b9y
      have k8y := k8.below b9y
      have hby := hb.trans (b9y.mono hb.size)
      rw [hzl.out] at *
      clear c3 f3 l3 c4 f4 l4 c6 f6 l6 c7 f7 l7 c9 f9 l9
      go_wp2
      go_roundw
      case rel =>
        have hk9 := k9y.set_ 0 (.int .i64 zl)
        refine ⟨.inr (.inl ⟨rfl, hk9⟩), k6y.far (by dsimp only; omega) _, k7y.far (by dsimp only; omega) _, k8y.far (by dsimp only; omega) _, hby.setCell (p := ⟨w.heap.size + 1 + 1 + 1, 0, none⟩) (by dsimp only; omega) _⟩
      case measure => simp [intOf]
    · go_wp2_with fail
      obtain ⟨c3, f3, l3⟩ := ks'.rules
      obtain ⟨c4, f4, l4⟩ := kd'.rules
      obtain ⟨c6, f6, l6⟩ := k6.rules
      obtain ⟨c7, f7, l7⟩ := k7.rules
      go_region_held3 (fun w' => (∀ i, w'.cell? ⟨gs, i, none⟩ = #[Value.int .i64 s.head, .slice A n c, .int .i64 s.lane.lo, .int .i64 s.lane.hi, .int .i64 s.bend][i]?) ∧ (∀ i, w'.cell? ⟨w.heap.size, i, none⟩ = #[Value.int .i64 own.lo, .int .i64 own.hi][i]?) ∧ (∀ i, w'.cell? ⟨w.heap.size + 1, i, none⟩ = #[Value.int .i64 bef.lo, .int .i64 bef.hi][i]?) ∧ (∀ i, w'.cell? ⟨gd, i, none⟩ = #[Value.int .i64 d.lo, .int .i64 d.hi][i]?) ∧ gs < w'.heap.size ∧ w.heap.size < w'.heap.size ∧ w.heap.size + 1 < w'.heap.size ∧ gd < w'.heap.size)
        (first | (with_reducible exact boxes_set (by assumption) _ _ (by dsimp only; omega) (by dsimp only; omega) (by dsimp only; omega) (by dsimp only; omega)) | (with_reducible exact boxes_keep (by assumption) hbx) | (with_reducible exact ⟨c3, c6, c7, c4, l3, l6, l7, l4⟩) | exact ⟨c3, c6, c7, c4, l3, l6, l7, l4⟩ | go_keep)
        (first | (go_at_call 104; refine (endshi_any _ _).mono ?_; rintro e w' ⟨rfl, hbx⟩; (first | (have b9x := b9x.trans (hbx.mono b9x.size)) | (have b9x := below_of_drew hbx))) | (go_at_call 105; have bwx := hb.trans (b9x.mono hb.size); have hsx := hs.keep bwx.size (fun _ _ h => bwx.cell h); refine (eased_any s A n c B i _ _ _ _ hsx ho.out hi (by omega) (by omega) (by omega) (by omega) (by omega) (by omega)).mono ?_; rintro e w' ⟨rfl, hbx⟩; have b9y := b9x.trans (hbx.mono b9x.size); have k9y := k9.below b9y; obtain ⟨c9, f9, l9⟩ := k9y.rules))
      have k6y := k6.below b9y
      have k7y := k7.below b9y
      have k8y := k8.below b9y
      have hby := hb.trans (b9y.mono hb.size)
      rw [hzh.out] at *
      clear c3 f3 l3 c4 f4 l4 c6 f6 l6 c7 f7 l7 c9 f9 l9
      go_wp2
      go_roundw
      case rel =>
        have hk9 := k9y.set_ 1 (.int .i64 zh)
        refine ⟨.inr (.inr ⟨rfl, hk9⟩), k6y.far (by dsimp only; omega) _, k7y.far (by dsimp only; omega) _, k8y.far (by dsimp only; omega) _, hby.setCell (p := ⟨w.heap.size + 1 + 1 + 1, 1, none⟩) (by dsimp only; omega) _⟩
      case measure => simp [intOf]
    · obtain ⟨c8, f8, l8⟩ := k8.rules
      obtain ⟨c9, f9, l9⟩ := k9.rules
      go_wp2
      refine bodyPost_ret (v := .agg #[.int .i64 zl, .int .i64 zh]) (by simp [results, Tryz.results102, go_sem, c8]) rfl ⟨rfl, (hb.setCell (p := ⟨w.heap.size + 1 + 1, 0, none⟩) (by dsimp only; omega) _).setCell (p := ⟨w.heap.size + 1 + 1, 1, none⟩) (by dsimp only; omega) _⟩
theorem eg_enclosed1 : Enters Tryz.prog 102 := enters_of Tryz.func102 (by kernel_rfl) rfl
theorem enclosed_any (s : Strm) (A O : Option Addr) (n c no co B1 B : Nat) (l : List Bnd) (d : Bnd) (w : World) (ho : okStrm s = true) (hl : okOffs s l = true) (hd : okBnd 100 d = true) (hss : SlAt w B1 5 Sec.cells A n c s.secs) (hs : SlAt w B 2 Bnd.cells O no co l) :
    Calls Tryz.prog 53 #[.agg #[.int .i64 s.head, .slice A n c, .int .i64 s.lane.lo, .int .i64 s.lane.hi, .int .i64 s.bend], .slice O no co, .agg #[.int .i64 d.lo, .int .i64 d.hi]] w (OwnBnds w no (encL s l d)) := by
  have hh := Lib.hid (ok_head ho)
  have hll := Lib.hid (okOffs_len hl)
  replace ho := Lib.hid ho
  replace hl := Lib.hid (okOffs_all hl)
  replace hd := Lib.hid hd
  go_enter Tryz.func53, Tryz.ntmps53
  go_wp2_with fail
  refine (still_any s.head _).mono ?_; rintro e w1 ⟨rfl, hb1⟩
  have k3 := ((Blk.new w _ _).alloc _).below hb1
  have k5 := (Blk.new _ _ _).below hb1
  rw [World.size_alloc] at k5
  have b1 := (((Below.refl w.heap.size w).alloc (Nat.le_refl _) _).alloc (by simp) _).trans (hb1.mono (by simp; omega))
  have hss1 := ((hss.alloc _).alloc _).below hb1
  have hs1 := ((hs.alloc _).alloc _).below hb1
  go_wp2_with fail
  have hfn : FnBnd 102 #[.pointer (some ⟨w.heap.size, 0, none⟩), .pointer (some ⟨w.heap.size + 1, 0, none⟩)] (encB s d) l (still s.head) w1 := by
    intro W i hb hi
    exact enclosed1_any s A n c B1 i w.heap.size (w.heap.size + 1) d _ _ W (hss1.below hb) ho.out hd.out (k3.below hb) (k5.below hb) (by have := hll.out; have := hss.len; omega) (okB_of hl.out (okB_still hh.out) i) (okB_prev hl.out (okB_still hh.out) i)
  refine (eachbnd_any _ l (still s.head) O no co B _ _ eg_enclosed1 w1 hfn hs1).mono ?_
  rintro e w2 ⟨O', co', rfl, hown, hr, hb2⟩
  clear k3 k5
  go_wp2
  go_ret
  exact OwnBnds.lift ⟨O', co', rfl, hown, hr, hb2⟩ b1

/-- What checked hands back: the streamer, or a zero one and the error. -/
def RetLine (s : Strm) (A : Option Addr) (n c : Nat) (er : Int) (w : World) (e : Ending) (w' : World) : Prop :=
  (er = 0 → e = .returned (.tuple #[.agg #[.int .i64 s.head, .slice A n c, .int .i64 s.lane.lo, .int .i64 s.lane.hi, .int .i64 s.bend], .int .i64 0])) ∧
  (er ≠ 0 → e = .returned (.tuple #[.agg #[.int .i64 0, .slice none 0 0, .int .i64 0, .int .i64 0, .int .i64 0], .int .i64 er])) ∧ Below w.heap.size w w'
theorem checked_any (s : Strm) (A O : Option Addr) (n c no co B1 B : Nat) (l : List Bnd) (w : World) (hss : SlAt w B1 5 Sec.cells A n c s.secs) (hs : SlAt w B 2 Bnd.cells O no co l) :
    Calls Tryz.prog 48 #[.agg #[.int .i64 s.head, .slice A n c, .int .i64 s.lane.lo, .int .i64 s.lane.hi, .int .i64 s.bend], .slice O no co] w (RetLine s A n c (errB s l) w) := by
  cases h1 : okStrm s
  · have hk : chkStrm s = 30 := by simp [chkStrm, h1]
    have hv : errB s l = 30 := by simp [errB, h1]
    rw [hv]
    clear h1 hv
    replace hk := Lib.hid hk
    go_enter Tryz.func48, Tryz.ntmps48
    go_wp2_with fail
    refine (check_any s A n c B1 _ ((hss.alloc _).alloc _)).mono ?_; rw [hk.out]; rintro e w1 ⟨rfl, hb1⟩
    have k4 := (Blk.new _ _ _).below hb1
    rw [World.size_alloc] at k4
    obtain ⟨c4, f4, l4⟩ := k4.rules
    have b1 := (((Below.refl w.heap.size w).alloc (Nat.le_refl _) _).alloc (by simp) _).trans (hb1.mono (by simp; omega))
    go_wp2
    refine bodyPost_ret (v := .tuple #[.agg #[.int .i64 0, .slice none 0 0, .int .i64 0, .int .i64 0, .int .i64 0], .int .i64 30]) (by simp [results, Tryz.results48, go_sem, c4]) rfl ⟨fun h => by omega, fun _ => rfl, ?_⟩
    (have hzB := b1.size; repeat (first | exact b1 | (refine Below.setCell ?_ (by dsimp only; omega) _) | (refine Below.alloc ?_ (by simp; omega) _) | (refine Below.drew ?_)))
  · have hk : chkStrm s = 0 := by simp [chkStrm, h1]
    replace hk := Lib.hid hk
    have hsl := Lib.hid hss.len
    cases h2 : okOffs s l
    · have hv : errB s l = 31 := by simp [errB, h1, h2]
      rw [hv]
      clear h1 hv
      replace h2 := Lib.hid h2
      go_enter Tryz.func48, Tryz.ntmps48
      go_wp2_with fail
      refine (check_any s A n c B1 _ ((hss.alloc _).alloc _)).mono ?_; rw [hk.out]; rintro e w1 ⟨rfl, hb1⟩
      have k2 := ((Blk.new w _ _).alloc _).below hb1
      have k4 := (Blk.new _ _ _).below hb1
      rw [World.size_alloc] at k4
      obtain ⟨c2, f2, l2⟩ := k2.rules
      have b1 := (((Below.refl w.heap.size w).alloc (Nat.le_refl _) _).alloc (by simp) _).trans (hb1.mono (by simp; omega))
      go_wp2_with fail
      refine (bounds_any s A O n c no co B l _ hsl.out ((((hs.alloc _).alloc _).below hb1).alloc _)).mono ?_; rw [h2.out]; rintro e w2 ⟨rfl, hb2⟩
      replace k4 := (k4.alloc _).below hb2
      clear c2 f2 l2 k2
      obtain ⟨c4, f4, l4⟩ := k4.rules
      have b2 := b1.trans (((Below.refl _ _).alloc b1.size _).trans (hb2.mono (by have := b1.size; simp; omega)))
      go_wp2
      refine bodyPost_ret (v := .tuple #[.agg #[.int .i64 0, .slice none 0 0, .int .i64 0, .int .i64 0, .int .i64 0], .int .i64 31]) (by simp [results, Tryz.results48, go_sem, c4]) rfl ⟨fun h => by omega, fun _ => rfl, ?_⟩
      (have hzB := b2.size; repeat (first | exact b2 | (refine Below.setCell ?_ (by dsimp only; omega) _) | (refine Below.alloc ?_ (by simp; omega) _) | (refine Below.drew ?_)))
    · have hv : errB s l = 0 := by simp [errB, h1, h2]
      rw [hv]
      clear h1 hv
      replace h2 := Lib.hid h2
      go_enter Tryz.func48, Tryz.ntmps48
      go_wp2_with fail
      refine (check_any s A n c B1 _ ((hss.alloc _).alloc _)).mono ?_; rw [hk.out]; rintro e w1 ⟨rfl, hb1⟩
      have k2 := ((Blk.new w _ _).alloc _).below hb1
      have k4 := (Blk.new _ _ _).below hb1
      rw [World.size_alloc] at k4
      obtain ⟨c2, f2, l2⟩ := k2.rules
      have b1 := (((Below.refl w.heap.size w).alloc (Nat.le_refl _) _).alloc (by simp) _).trans (hb1.mono (by simp; omega))
      go_wp2_with fail
      refine (bounds_any s A O n c no co B l _ hsl.out ((((hs.alloc _).alloc _).below hb1).alloc _)).mono ?_; rw [h2.out]; rintro e w2 ⟨rfl, hb2⟩
      have k7 := (Blk.new w1 _ _).below hb2
      replace k4 := (k4.alloc _).below hb2
      clear c2 f2 l2 k2
      obtain ⟨c4, f4, l4⟩ := k4.rules
      obtain ⟨c7, f7, l7⟩ := k7.rules
      have b2 := b1.trans (((Below.refl _ _).alloc b1.size _).trans (hb2.mono (by have := b1.size; simp; omega)))
      go_wp2
      refine bodyPost_ret (v := .tuple #[.agg #[.int .i64 s.head, .slice A n c, .int .i64 s.lane.lo, .int .i64 s.lane.hi, .int .i64 s.bend], .int .i64 0]) (by simp [results, Tryz.results48, go_sem, c4]) rfl ⟨fun _ => rfl, fun h => absurd rfl h, ?_⟩
      (have hzB := b2.size; repeat (first | exact b2 | (refine Below.setCell ?_ (by dsimp only; omega) _) | (refine Below.alloc ?_ (by simp; omega) _) | (refine Below.drew ?_)))
theorem errB_zero {s : Strm} {l : List Bnd} (h : errB s l = 0) : okStrm s = true ∧ okOffs s l = true := by
  unfold errB at h
  split at h
  · split at h
    · constructor <;> assumption
    · omega
  · omega
end Go.Proofs.YtcmbmmpihiekhaaGreat
namespace Go.Proofs.YtcmbmmpihiekhaaGreat
open Go.RowKit Go.Shelf

theorem own_form {w : World} {base : Nat} {e : TypeId} {size n c : Nat} {O : Option Addr} {xs : List Value} (h : w.ownsRow base e size (.slice O n c) n xs) (hn : 0 < n) : ∃ g, O = some ⟨g, 0, none⟩ ∧ base ≤ g ∧ g < w.heap.size := by
  rcases h.2 with ⟨_, h2⟩ | ⟨g, cap, cur, hv, hg, hh, _⟩
  · omega
  · injection hv with hv
    exact ⟨g, hv, hg, (Array.getElem?_eq_some_iff.1 hh).1⟩
theorem own_bnd {w : World} {base : Nat} {e : TypeId} {n c g : Nat} {L : List Bnd} (h : w.ownsRow base e 2 (.slice (some ⟨g, 0, none⟩) n c) n (L.flatMap Bnd.cells)) (hn : n ≤ 17592186044416) (hL : L.length = n) {m : Nat} {x : Bnd} (hx : L[m]? = some x) :
    w.cell? ⟨g, m * 2, none⟩ = some (.int .i64 x.lo) ∧ w.cell? ⟨g, m * 2 + 1, none⟩ = some (.int .i64 x.hi) ∧ w.frozen? ⟨g, m * 2, none⟩ = false ∧ w.frozen? ⟨g, m * 2 + 1, none⟩ = false := by
  obtain ⟨A, c', e1, h1⟩ := SlAt.of_own (enc := Bnd.cells) h hn L rfl (fun _ => rfl) hL
  obtain ⟨b, off, e2, _, _, c0, c1⟩ := h1.bnd hx
  injection e1 with e1
  subst e1
  injection e2 with e2
  injection e2 with e3 e4
  subst e3
  subst e4
  rw [Nat.zero_add] at c0 c1
  exact ⟨c0, c1, h.frozenAt _, h.frozenAt _⟩
def mixTo (a b : List Bnd) (k : Nat) : List Bnd := a.take k ++ b.drop k
theorem mixTo_get {a b : List Bnd} {k : Nat} {x : Bnd} (h : a[k]? = some x) : (mixTo a b (k + 1))[k]? = some x := by
  have hk : k < a.length := (List.getElem?_eq_some_iff.1 h).1
  unfold mixTo
  rw [List.getElem?_append_left (by rw [List.length_take]; omega), List.getElem?_take_of_lt (by omega), h]
theorem mixTo_set {a b : List Bnd} {k : Nat} {y : Bnd} (ha : k < a.length) (h : b[k]? = some y) : (mixTo a b (k + 1)).set k y = mixTo a b k := by
  have hb : k < b.length := (List.getElem?_eq_some_iff.1 h).1
  have ey : b[k] = y := (List.getElem?_eq_some_iff.1 h).2
  unfold mixTo
  rw [List.set_append_left _ _ (by rw [List.length_take]; omega)]
  rw [List.take_add_one, List.getElem?_eq_getElem ha]
  simp only [Option.toList_some]
  rw [List.set_append_right _ _ (by rw [List.length_take]; omega)]
  rw [List.length_take, Nat.min_eq_left (by omega), Nat.sub_self, sZ, List.append_assoc]
  rw [List.drop_eq_getElem_cons hb, ey]; rfl
theorem mixTo_len {a b : List Bnd} {k n : Nat} (ha : a.length = n) (hb : b.length = n) (hk : k ≤ n) : (mixTo a b k).length = n := by
  unfold mixTo; rw [List.length_append, List.length_take, List.length_drop]; omega

def pullZ (sl fa : Int) (secs : List Sec) (bd : List Bnd) : List Bnd := (List.range bd.length).map fun i => sumB ((List.zipWith (ownPull sl fa) secs bd).drop i)
theorem pullL_eq (s : Strm) (l : List Bnd) (v : Int) (cur : Bnd) : pullL s l v cur = pullZ (max 0 (v - cur.hi)) (max 0 (v - cur.lo)) s.secs (bendL s l) := by
  simp [pullL, pullZ, bendL, eachL_length]
theorem pullZ_len (sl fa : Int) (secs : List Sec) (bd : List Bnd) : (pullZ sl fa secs bd).length = bd.length := by simp [pullZ]
theorem pullZ_get (sl fa : Int) (secs : List Sec) (bd : List Bnd) {k : Nat} (hk : k < bd.length) : (pullZ sl fa secs bd)[k]? = some (sumB ((List.zipWith (ownPull sl fa) secs bd).drop k)) := by
  simp [pullZ, hk]
theorem sumB_step {Z : List Bnd} {k : Nat} {z : Bnd} (h : Z[k]? = some z) : sumB (Z.drop k) = ⟨(sumB (Z.drop (k + 1))).lo + z.lo, (sumB (Z.drop (k + 1))).hi + z.hi⟩ := by
  have hk : k < Z.length := (List.getElem?_eq_some_iff.1 h).1
  have e : Z[k] = z := (List.getElem?_eq_some_iff.1 h).2
  rw [List.drop_eq_getElem_cons hk, e]; rfl
theorem sumB_bd : ∀ (Z : List Bnd) (M : Int), (∀ z ∈ Z, 0 ≤ z.lo ∧ z.lo ≤ M ∧ 0 ≤ z.hi ∧ z.hi ≤ M) → 0 ≤ (sumB Z).lo ∧ (sumB Z).lo ≤ Z.length * M ∧ 0 ≤ (sumB Z).hi ∧ (sumB Z).hi ≤ Z.length * M
  | [], M, _ => by simp [sumB]
  | z :: Z, M, h => by
    obtain ⟨a1, a2, a3, a4⟩ := sumB_bd Z M (fun y hy => h y (List.mem_cons_of_mem _ hy))
    obtain ⟨b1, b2, b3, b4⟩ := h z (List.mem_cons_self ..)
    simp only [sumB, List.length_cons]
    have e : ((Z.length + 1 : Nat) : Int) * M = Z.length * M + M := by rw [Int.natCast_add, Int.add_mul]; simp
    rw [e]
    omega
theorem ownPull_bd {x : Sec} {b : Bnd} {sl fa : Int} (hx : okSec x = true) (h1 : 0 ≤ sl) (h2 : sl ≤ 150) (h3 : 0 ≤ fa) (h4 : fa ≤ 150) (h5 : 0 ≤ b.lo) (h6 : b.lo ≤ 32768) (h7 : 0 ≤ b.hi) (h8 : b.hi ≤ 32768) :
    (0 ≤ sl * sl ∧ sl * sl ≤ 22500) ∧ (0 ≤ fa * fa ∧ fa * fa ≤ 22500) ∧ (0 ≤ x.drag * (sl * sl + b.lo) ∧ x.drag * (sl * sl + b.lo) ≤ 60000000) ∧ (0 ≤ x.drag * (fa * fa + b.hi) ∧ x.drag * (fa * fa + b.hi) ≤ 60000000) := by
  obtain ⟨k0, k1, k2, k3, k4, k5, k6, k7, k8, k9⟩ := of_decide_eq_true hx
  have s1 := Int.mul_nonneg h1 h1
  have s2 := (mul_bd sl sl 150 150 h1 h2 (by omega) h2 (by omega)).2
  have f1 := Int.mul_nonneg h3 h3
  have f2 := (mul_bd fa fa 150 150 h3 h4 (by omega) h4 (by omega)).2
  have d1 := Int.mul_nonneg k6 (show 0 ≤ sl * sl + b.lo by omega)
  have d2 := (mul_bd x.drag (sl * sl + b.lo) 1000 60000 k6 k7 (by omega) (by omega) (by omega)).2
  have d3 := Int.mul_nonneg k6 (show 0 ≤ fa * fa + b.hi by omega)
  have d4 := (mul_bd x.drag (fa * fa + b.hi) 1000 60000 k6 k7 (by omega) (by omega) (by omega)).2
  omega
theorem bendL_bd {s : Strm} {l : List Bnd} (hh : headOk s) (hl : l.all (okBnd 16384) = true) {k : Nat} {b : Bnd} (h : (bendL s l)[k]? = some b) : 0 ≤ b.lo ∧ b.lo ≤ 32768 ∧ 0 ≤ b.hi ∧ b.hi ≤ 32768 := by
  have hk : k < l.length := by have := (List.getElem?_eq_some_iff.1 h).1; simpa [bendL, eachL_length] using this
  unfold bendL at h
  rw [eachL_get _ _ _ hk] at h
  obtain ⟨p1, p2, p3⟩ := okB_of hl (okB_still hh) k
  obtain ⟨p4, p5, p6⟩ := okB_prev hl (okB_still hh) k
  injection h with h
  subst h
  simp only [bendB]
  omega
theorem pulls_any (s : Strm) (A O : Option Addr) (n c co B1 B : Nat) (l : List Bnd) (v : Int) (cur : Bnd) (w : World) (ho : okStrm s = true) (hl : okOffs s l = true) (hv : okSpeed v = true) (hc : okBnd 50 cur = true)
    (hss : SlAt w B1 5 Sec.cells A n c s.secs) (hs : SlAt w B 2 Bnd.cells O n co l) :
    Calls Tryz.prog 57 #[.agg #[.int .i64 s.head, .slice A n c, .int .i64 s.lane.lo, .int .i64 s.lane.hi, .int .i64 s.bend], .slice O n co, .int .i64 v, .agg #[.int .i64 cur.lo, .int .i64 cur.hi]] w (OwnBnds w n (pullL s l v cur)) := by
  have hh := Lib.hid (ok_head ho)
  have hla := Lib.hid (okOffs_all hl)
  replace ho := Lib.hid ho
  replace hl := Lib.hid hl
  obtain ⟨v1, v2⟩ := of_decide_eq_true (p := 0 ≤ v ∧ v ≤ 100) hv
  obtain ⟨q1, q2, q3⟩ := of_decide_eq_true (p := -50 ≤ cur.lo ∧ cur.lo ≤ cur.hi ∧ cur.hi ≤ 50) hc
  clear hv hc
  go_enter Tryz.func57, Tryz.ntmps57
  go_wp2_with fail
  refine (bends_any s A O n c n co B l _ hh.out hla.out ((hs.alloc _).alloc _)).mono ?_
  rintro e w1 ⟨O', co', rfl, hown, hr, hb1⟩
  have k4 := ((Blk.new w _ _).alloc _).below hb1
  have k7 := (Blk.new _ _ _).below hb1
  rw [World.size_alloc] at k7
  have b1 := (((Below.refl w.heap.size w).alloc (Nat.le_refl _) _).alloc (by simp) _).trans (hb1.mono (by simp; omega))
  obtain ⟨c4, f4, l4⟩ := k4.rules
  obtain ⟨c7, f7, l7⟩ := k7.rules
  go_wp2_with fail
  go_quiet (fail)
  have e1 : (if cur.hi < v then v - cur.hi else 0) = max 0 (v - cur.hi) := by split <;> omega
  have e2 : (if cur.lo < v then v - cur.lo else 0) = max 0 (v - cur.lo) := by split <;> omega
  have hpe := Lib.hid (pullL_eq s l v cur)
  rw [e1, e2]
  clear e1 e2 c4 f4 l4 c7 f7 l7 k7
  have sl1 : 0 ≤ max 0 (v - cur.hi) ∧ max 0 (v - cur.hi) ≤ 150 := by omega
  have fa1 : 0 ≤ max 0 (v - cur.lo) ∧ max 0 (v - cur.lo) ≤ 150 := by omega
  generalize max 0 (v - cur.hi) = sl at *
  generalize max 0 (v - cur.lo) = fa at *
  have hown1 := ownsRow_base (base' := w.heap.size) hown (by simp; omega)
  have hgl := Lib.hid hown.lt
  have hss1 := ((hss.alloc _).alloc _).below hb1
  obtain ⟨w2, hw⟩ : ∃ w2, w2 = w1.drewN nq := ⟨_, rfl⟩
  rw [← hw]
  have k4' : Blk w2 w.heap.size 79 #[.int .i64 s.head, .slice A n c, .int .i64 s.lane.lo, .int .i64 s.lane.hi, .int .i64 s.bend] := by rw [hw]; exact k4
  have b2 : Below w.heap.size w w2 := by rw [hw]; exact ⟨b1.os, b1.tape, b1.output, b1.size, b1.block⟩
  have hss2 : SlAt w2 B1 5 Sec.cells A n c s.secs := by rw [hw]; exact hss1
  have hown2 : w2.ownsRow w.heap.size 26 2 (.slice O' n co') n ((bendL s l).flatMap Bnd.cells) := by rw [hw]; exact hown1
  clear hw k4 hown hown1 hss1 hr hb1 b1
  have hbl : (bendL s l).length = n := by rw [bendL, eachL_length]; exact hs.len
  have hn0 : 1 ≤ n ∧ n ≤ 8 := by have := hh.out; unfold headOk at this; have := hss.len; omega
  obtain ⟨g, rfl, hg1, hg2⟩ := own_form hown2 (by omega)
  have hg3 : w.heap.size < g := by have := (hgl.out g rfl).1; simp at this; omega
  clear hgl
  have hbb := Lib.hid (fun (k : Nat) (b : Bnd) (h : (bendL s l)[k]? = some b) => bendL_bd hh.out hla.out h)
  have hZl : (List.zipWith (ownPull sl fa) s.secs (bendL s l)).length = n := by rw [List.length_zipWith, hbl, hss.len]; omega
  replace hbl := Lib.hid hbl
  replace hZl := Lib.hid hZl
  have hsl := Lib.hid hss.len
  obtain ⟨sl1, sl2⟩ := sl1
  obtain ⟨fa1, fa2⟩ := fa1
  generalize bendL s l = bd at *
  clear v1 v2 q1 q2 q3
  have n1 : ¬ w2.heap.size = g := by omega
  have n1' : ¬ g = w2.heap.size := by omega
  have n2 : ¬ w2.heap.size = w.heap.size := by have := b2.size; have := k4'.lt; omega
  have n2' : ¬ w.heap.size = w2.heap.size := by have := b2.size; have := k4'.lt; omega
  have hZ : ∀ (m : Nat) (z : Bnd), (List.zipWith (ownPull sl fa) s.secs bd)[m]? = some z → 0 ≤ z.lo ∧ z.lo ≤ 60000000 ∧ 0 ≤ z.hi ∧ z.hi ≤ 60000000 := by
    intro m z hz
    rw [List.getElem?_zipWith] at hz
    cases hs1 : s.secs[m]? with
    | none => rw [hs1] at hz; cases hz
    | some x =>
      cases hb1 : bd[m]? with
      | none => rw [hs1, hb1] at hz; cases hz
      | some y =>
        rw [hs1, hb1] at hz
        simp only [Option.some.injEq] at hz
        subst hz
        obtain ⟨d1, d2, d3, d4⟩ := hbb.out m y hb1
        have hm : m < s.secs.length := (List.getElem?_eq_some_iff.1 hs1).1
        have hx : okSec x = true := by
          have := ok_sec ho.out hm
          rw [sec_at s hm] at hs1
          injection hs1 with hs1
          rw [← hs1]; exact this
        obtain ⟨_, _, ⟨r1, r2⟩, ⟨r3, r4⟩⟩ := ownPull_bd hx sl1 sl2 fa1 fa2 d1 d2 d3 d4
        exact ⟨r1, r2, r3, r4⟩
  have hS : ∀ m, 0 ≤ (sumB ((List.zipWith (ownPull sl fa) s.secs bd).drop m)).lo ∧ (sumB ((List.zipWith (ownPull sl fa) s.secs bd).drop m)).lo ≤ 480000000 ∧ 0 ≤ (sumB ((List.zipWith (ownPull sl fa) s.secs bd).drop m)).hi ∧ (sumB ((List.zipWith (ownPull sl fa) s.secs bd).drop m)).hi ≤ 480000000 := by
    intro m
    have h8 : ((List.zipWith (ownPull sl fa) s.secs bd).drop m).length ≤ 8 := by rw [List.length_drop, hZl.out]; omega
    have := sumB_bd ((List.zipWith (ownPull sl fa) s.secs bd).drop m) 60000000 (fun z hz => by
      have hz' := List.mem_of_mem_drop hz
      obtain ⟨j, hj⟩ := List.mem_iff_getElem?.1 hz'
      exact hZ j z hj)
    omega
  replace hS := Lib.hid hS
  clear hZ
  obtain ⟨hn1, hn8⟩ := hn0
  go_wp2_with fail
  go_loopw [13] (fun j wr => ∃ k : Nat, j = .int .i64 ((k : Int) - 1) ∧ k ≤ n ∧ Blk wr w2.heap.size 26 #[.int .i64 (sumB ((List.zipWith (ownPull sl fa) s.secs bd).drop k)).lo, .int .i64 (sumB ((List.zipWith (ownPull sl fa) s.secs bd).drop k)).hi] ∧
      wr.ownsRow w.heap.size 26 2 (.slice (some ⟨g, 0, none⟩) n co') n ((mixTo bd (pullZ sl fa s.secs bd) k).flatMap Bnd.cells) ∧ Blk wr w.heap.size 79 #[.int .i64 s.head, .slice A n c, .int .i64 s.lane.lo, .int .i64 s.lane.hi, .int .i64 s.bend] ∧ Below w.heap.size w wr) (fun j wr => (intOf j + 1).toNat)
  case atStart =>
    refine ⟨n, rfl, Nat.le_refl _, ?_, ?_, k4'.alloc _, b2.alloc b2.size _⟩
    · have e : (List.zipWith (ownPull sl fa) s.secs bd).drop n = [] := List.drop_eq_nil_of_le (by rw [hZl.out]; omega)
      rw [e]
      exact Blk.new _ _ _
    · have e : mixTo bd (pullZ sl fa s.secs bd) n = bd := by
        unfold mixTo
        rw [List.take_of_length_le (by rw [hbl.out]; omega), List.drop_eq_nil_of_le (by rw [pullZ_len, hbl.out]; omega), List.append_nil]
      rw [e]
      exact hown2.alloc _
  case round =>
    obtain ⟨k, rfl, hk, k12, hown, k4, hb⟩ := hrel
    cases k with
    | zero =>
      go_wp2
      go_ret
      have e : mixTo bd (pullZ sl fa s.secs bd) 0 = pullZ sl fa s.secs bd := by simp [mixTo]
      rw [e] at hown
      obtain ⟨O1, c1, e1, h1⟩ := SlAt.of_own (enc := Bnd.cells) hown (by omega) (pullZ sl fa s.secs bd) rfl (fun _ => rfl) (by rw [pullZ_len, hbl.out])
      rw [← hpe.out] at hown h1
      exact ⟨O1, c1, congrArg Ending.returned e1, e1 ▸ hown, h1, hb⟩
    | succ m =>
      rw [show (((m + 1 : Nat) : Int) - 1) = (m : Int) from by omega]
      obtain ⟨x, hx⟩ := some_of_lt hbl.out (show m < n by omega)
      have hms : m < s.secs.length := by have := hsl.out; omega
      obtain ⟨d1, d2, d3, d4⟩ := hbb.out m x hx
      have hsec := ok_sec ho.out hms
      obtain ⟨⟨r1, r2⟩, ⟨r3, r4⟩, ⟨r5, r6⟩, ⟨r7, r8⟩⟩ := ownPull_bd (b := x) hsec sl1 sl2 fa1 fa2 d1 d2 d3 d4
      have hz : (List.zipWith (ownPull sl fa) s.secs bd)[m]? = some (ownPull sl fa (s.sec m) x) := by
        rw [List.getElem?_zipWith, sec_at s hms, hx]
      have hst := Lib.hid (sumB_step hz)
      obtain ⟨s1, s2, s3, s4⟩ := hS.out (m + 1)
      have hpz := Lib.hid (pullZ_get sl fa s.secs bd (k := m) (by have := hbl.out; omega))
      obtain ⟨bb, off, hA, -, hbl2, -, -, -, c3, -⟩ := (hss.keep hb.size (fun _ _ h => hb.cell h)).sec (sec_at s hms)
      obtain ⟨o0, o1, o2, o3⟩ := own_bnd hown (by omega) (mixTo_len hbl.out (by rw [pullZ_len, hbl.out]) hk) (mixTo_get hx)
      have ho' : ownPull sl fa (s.sec m) x = ⟨(s.sec m).drag * (sl * sl + x.lo), (s.sec m).drag * (fa * fa + x.hi)⟩ := rfl
      rw [ho'] at hst
      generalize (s.sec m).drag = dr at *
      generalize sumB ((List.zipWith (ownPull sl fa) s.secs bd).drop (m + 1)) = S at *
      subst hA
      have hml : (m : Int) < (n : Int) := by omega
      have hm0 : (0 : Int) ≤ (m : Int) := by omega
      obtain ⟨c4, f4, l4⟩ := k4.rules
      obtain ⟨c12, f12, l12⟩ := k12.rules
      have t1 := IntWalk.i64_in (sl * sl) (by omega)
      have t2 := IntWalk.i64_in (sl * sl + x.lo) (by omega)
      have t3 := IntWalk.i64_in (dr * (sl * sl + x.lo)) (by omega)
      have t4 := IntWalk.i64_in (S.lo + dr * (sl * sl + x.lo)) (by omega)
      have t5 := IntWalk.i64_in (fa * fa) (by omega)
      have t6 := IntWalk.i64_in (fa * fa + x.hi) (by omega)
      have t7 := IntWalk.i64_in (dr * (fa * fa + x.hi)) (by omega)
      have t8 := IntWalk.i64_in (S.hi + dr * (fa * fa + x.hi)) (by omega)
      go_wp2_with fail
      go_still_tail 15, (by kernel_rfl)
      change wpList _ _ _ _ _ wr.drew
      have k12a := k12.drew
      have hown_a : wr.drew.ownsRow w.heap.size 26 2 (.slice (some ⟨g, 0, none⟩) n co') n ((mixTo bd (pullZ sl fa s.secs bd) (m + 1)).flatMap Bnd.cells) := hown
      have ha : Below wr.heap.size wr wr.drew := (Below.refl _ _).drew
      generalize wr.drew = wa at *
      have k4a := k4.below ha
      have hba := hb.trans (ha.mono hb.size)
      obtain ⟨ca4, fa4, la4⟩ := k4a.rules
      obtain ⟨ca12, fa12, la12⟩ := k12a.rules
      go_wp2_with fail
      clear ca4 fa4 la4 ca12 fa12 la12 c4 f4 l4 c12 f12 l12 o0 o1 o2 o3 c3
      have k12b := k12a.set_ 0 (.int .i64 (S.lo + dr * (sl * sl + x.lo)))
      have k4b := k4a.far (p := ⟨w2.heap.size, 0, none⟩) n2' (.int .i64 (S.lo + dr * (sl * sl + x.lo)))
      have hown_b := ownsRow_setCell hown_a (p := ⟨w2.heap.size, 0, none⟩) (by simp [Value.ownBlock]; omega) (.int .i64 (S.lo + dr * (sl * sl + x.lo)))
      have hbb2 := hba.setCell (p := ⟨w2.heap.size, 0, none⟩) (by dsimp only; exact b2.size) (.int .i64 (S.lo + dr * (sl * sl + x.lo)))
      generalize wa.setCell ⟨w2.heap.size, 0, none⟩ (.int .i64 (S.lo + dr * (sl * sl + x.lo))) = wb at *
      replace k12b : Blk wb w2.heap.size 26 #[.int .i64 (S.lo + dr * (sl * sl + x.lo)), .int .i64 S.hi] := k12b
      clear hown_a k12a k4a k4 k12 hown hba ha
      obtain ⟨o0, o1, o2, o3⟩ := own_bnd hown_b (by omega) (mixTo_len hbl.out (by rw [pullZ_len, hbl.out]) hk) (mixTo_get hx)
      obtain ⟨c12, f12, l12⟩ := k12b.rules
      go_still_tail 15, (by kernel_rfl)
      change wpList _ _ _ _ _ wb.drew
      have k12c := k12b.drew
      have k4c := k4b.drew
      have hown_c : wb.drew.ownsRow w.heap.size 26 2 (.slice (some ⟨g, 0, none⟩) n co') n ((mixTo bd (pullZ sl fa s.secs bd) (m + 1)).flatMap Bnd.cells) := hown_b
      have hbc : Below w.heap.size w wb.drew := hbb2.drew
      generalize wb.drew = wc at *
      clear c12 f12 l12 o0 o1 o2 o3 k12b k4b hown_b hbb2
      obtain ⟨c12, f12, l12⟩ := k12c.rules
      obtain ⟨o0, o1, o2, o3⟩ := own_bnd hown_c (by omega) (mixTo_len hbl.out (by rw [pullZ_len, hbl.out]) hk) (mixTo_get hx)
      go_wp2
      go_roundw
      case rel =>
        refine ⟨m, rfl, by omega, ?_, ?_, ?_, ?_⟩
        · rw [hst.out]
          exact ((k12c.set_ 1 _).far (p := ⟨g, m * 2, none⟩) n1 _).far (p := ⟨g, m * 2 + 1, none⟩) n1 _
        · have hown_d := ownsRow_setCell hown_c (p := ⟨w2.heap.size, 1, none⟩) (by simp [Value.ownBlock]; omega) (.int .i64 (S.hi + dr * (fa * fa + x.hi)))
          have hown_e := ((hown_d.stored (m * 2) (.int .i64 (S.lo + dr * (sl * sl + x.lo)))).1.stored (m * 2 + 1) (.int .i64 (S.hi + dr * (fa * fa + x.hi)))).1
          rw [flatMap_set2 _ m ⟨S.lo + dr * (sl * sl + x.lo), S.hi + dr * (fa * fa + x.hi)⟩, mixTo_set (by rw [hbl.out]; omega) (by rw [hpz.out, hst.out])] at hown_e
          exact hown_e
        · exact ((k4c.far (p := ⟨w2.heap.size, 1, none⟩) n2' _).far (p := ⟨g, m * 2, none⟩) (by dsimp only; omega) _).far (p := ⟨g, m * 2 + 1, none⟩) (by dsimp only; omega) _
        · exact ((hbc.setCell (p := ⟨w2.heap.size, 1, none⟩) (by dsimp only; exact b2.size) _).setCell (p := ⟨g, m * 2, none⟩) hg1 _).setCell (p := ⟨g, m * 2 + 1, none⟩) hg1 _
      case measure => simp [intOf]
theorem bent1_any (s : Strm) (A : Option Addr) (n c gs : Nat) (w : World) (ks : Blk w gs 79 #[.int .i64 s.head, .slice A n c, .int .i64 s.lane.lo, .int .i64 s.lane.hi, .int .i64 s.bend]) :
    PredB 56 #[.pointer (some ⟨gs, 0, none⟩)] (fun b : Bnd => Value.agg #[.int .i64 b.lo, .int .i64 b.hi]) (fun x : Bnd => decide (s.bend < x.hi)) w := by
  intro W x hb
  have k := ks.below hb
  obtain ⟨c2, f2, l2⟩ := k.rules
  show Calls Tryz.prog 56 #[.agg #[.int .i64 x.lo, .int .i64 x.hi], .pointer (some ⟨gs, 0, none⟩)] W _
  go_enter Tryz.func56, Tryz.ntmps56
  go_wp2
  go_ret
  exact ⟨rfl, (Below.refl _ _).alloc (Nat.le_refl _) _⟩
theorem eg_bent1 : Enters Tryz.prog 56 := enters_of Tryz.func56 (by kernel_rfl) rfl
theorem bent_any (s : Strm) (A O : Option Addr) (n c no co B : Nat) (l : List Bnd) (w : World) (ho : headOk s) (hl : l.all (okBnd 16384) = true) (hs : SlAt w B 2 Bnd.cells O no co l) :
    Calls Tryz.prog 23 #[.agg #[.int .i64 s.head, .slice A n c, .int .i64 s.lane.lo, .int .i64 s.lane.hi, .int .i64 s.bend], .slice O no co] w fun e w' => e = .returned (.bool (bentS s l)) ∧ Below w.heap.size w w' := by
  replace ho := Lib.hid ho
  replace hl := Lib.hid hl
  go_enter Tryz.func23, Tryz.ntmps23
  go_wp2_with fail
  refine (bends_any s A O n c no co B l _ ho.out hl.out (hs.alloc _)).mono ?_
  rintro e w1 ⟨O', co', rfl, hown, hr, hb1⟩
  have k2 := (Blk.new _ _ _).below hb1
  have b1 := ((Below.refl w.heap.size w).alloc (Nat.le_refl _) _).trans (hb1.mono (by simp))
  go_wp2_with fail
  refine (contains_bnd (fun x => decide (s.bend < x.hi)) O' no co' _ _ _ eg_bent1 (bendL s l) _ (bent1_any s A n c _ _ k2) hr).mono ?_
  rintro e w2 ⟨rfl, hb2⟩
  go_wp2
  go_ret
  exact ⟨rfl, b1.trans (hb2.mono b1.size)⟩
def anyTo (p : Nat → Bool) (k : Nat) : Bool := (List.range k).any p
theorem anyTo_succ {p : Nat → Bool} {k : Nat} : anyTo p (k + 1) = (anyTo p k || p k) := by simp [anyTo, List.range_succ]
theorem anyTo_hit {p : Nat → Bool} {k n : Nat} (hk : k < n) (h : p k = true) : anyTo p n = true := by
  unfold anyTo; rw [List.any_eq_true]; exact ⟨k, List.mem_range.2 hk, h⟩
theorem pulled_any (s : Strm) (A O : Option Addr) (n c co B1 B : Nat) (l : List Bnd) (v : Int) (cur : Bnd) (w : World) (ho : okStrm s = true) (hl : okOffs s l = true) (hv : okSpeed v = true) (hc : okBnd 50 cur = true)
    (hss : SlAt w B1 5 Sec.cells A n c s.secs) (hs : SlAt w B 2 Bnd.cells O n co l) :
    Calls Tryz.prog 24 #[.agg #[.int .i64 s.head, .slice A n c, .int .i64 s.lane.lo, .int .i64 s.lane.hi, .int .i64 s.bend], .slice O n co, .int .i64 v, .agg #[.int .i64 cur.lo, .int .i64 cur.hi]] w fun e w' => e = .returned (.bool (pulledS s l v cur)) ∧ Below w.heap.size w w' := by
  have hpd : pulledS s l v cur = anyTo (fun i => decide ((s.sec i).cap < ((pullL s l v cur).getD i ⟨0, 0⟩).hi)) n := by unfold pulledS anyTo; rw [hs.len]
  have hpl : (pullL s l v cur).length = n := by simp [pullL, hs.len]
  rw [hpd]
  clear hpd
  obtain ⟨pl, hpl0⟩ : ∃ pl, pl = pullL s l v cur := ⟨_, rfl⟩
  rw [← hpl0] at hpl ⊢
  replace hpl0 := Lib.hid hpl0
  have hsl := Lib.hid hss.len
  have hll := Lib.hid hs.len
  replace ho := Lib.hid ho
  replace hl := Lib.hid hl
  replace hv := Lib.hid hv
  replace hc := Lib.hid hc
  go_enter Tryz.func24, Tryz.ntmps24
  go_wp2_with fail
  refine (pulls_any s A O n c co B1 B l v cur _ ho.out hl.out hv.out hc.out ((hss.alloc _).alloc _) ((hs.alloc _).alloc _)).mono ?_
  rintro e w1 ⟨O', co', rfl, hown, hr, hb1⟩
  have k4 := ((Blk.new w _ _).alloc _).below hb1
  have b1 := (((Below.refl w.heap.size w).alloc (Nat.le_refl _) _).alloc (by simp) _).trans (hb1.mono (by simp; omega))
  have hss1 := ((hss.alloc _).alloc _).below hb1
  rw [← hpl0.out] at hr
  clear hown hs hss hb1
  replace hpl := Lib.hid hpl
  have hn := hr.le
  go_wp2_with fail
  go_loopw [17] (fun i wr => ∃ k : Nat, i = .int .i64 k ∧ k ≤ n ∧ Hid (anyTo (fun i => decide ((s.sec i).cap < (pl.getD i ⟨0, 0⟩).hi)) k = false) ∧ Blk wr w.heap.size 79 #[.int .i64 s.head, .slice A n c, .int .i64 s.lane.lo, .int .i64 s.lane.hi, .int .i64 s.bend] ∧ Below w1.heap.size w1 wr) (fun i wr => n - (intOf i).toNat)
  case atStart => exact ⟨0, rfl, Nat.zero_le _, rfl, k4, Below.refl _ _⟩
  case round =>
    obtain ⟨k, rfl, hk, hno, k4, hb⟩ := hrel
    by_cases hlt : k < n
    · obtain ⟨x, hx⟩ := some_of_lt hpl.out hlt
      have hms : k < s.secs.length := by have := hsl.out; omega
      obtain ⟨b, off, rfl, -, hbl, d0, d1⟩ := (hr.below hb).bnd hx
      obtain ⟨b2, off2, rfl, -, hbl2, -, -, -, -, d4⟩ := (hss1.below hb).sec (sec_at s hms)
      have hgx : pl.getD k ⟨0, 0⟩ = x := by rw [List.getD_eq_getElem?_getD, hx]; rfl
      have hpk : Hid ((fun i => decide ((s.sec i).cap < (pl.getD i ⟨0, 0⟩).hi)) k = decide ((s.sec k).cap < x.hi)) := by show _ = _; simp only [hgx]
      generalize (s.sec k).cap = cp at *
      replace hx := Lib.hid hx
      clear hgx hr hss1
      have hk0 : (0 : Int) ≤ (k : Int) := by omega
      have hkn : (k : Int) < (n : Int) := by omega
      go_wp2_with fail
      obtain ⟨c4, f4, l4⟩ := (k4.alloc (.cells #[.int .i64 x.lo, .int .i64 x.hi] 26)).rules
      go_quiet (fail)
      clear c4 f4 l4
      by_cases hcx : cp < x.hi
      · go_wp2
        go_ret
        exact ⟨ret_bool (anyTo_hit hlt (by rw [hpk.out]; exact decide_eq_true hcx)).symm, b1.trans ((below_drewN (hb.alloc hb.size _) _).mono b1.size)⟩
      · go_wp2
        go_roundw
        case rel => exact ⟨k + 1, by go_num, by omega, by show _ = _; rw [anyTo_succ, hno.out, hpk.out]; simp [hcx], (k4.alloc _).drewN _, below_drewN (hb.alloc hb.size _) _⟩
        case measure => simp [intOf]; omega
    · obtain rfl : k = n := by omega
      go_wp2
      go_ret
      exact ⟨ret_bool hno.out.symm, b1.trans (hb.mono b1.size)⟩
end Go.Proofs.YtcmbmmpihiekhaaGreat
namespace Go.Proofs.YtcmbmmpihiekhaaGreat
open Go.RowKit Go.Shelf
attribute [local go_sem] Oper.semAt_some

theorem ediv_mono {a b : Int} (h : a ≤ b) : a / 64 ≤ b / 64 := Int.ediv_le_ediv (by omega) h
theorem eased_mono {s : Strm} {x : Sec} (hh : headOk s) (hx : okSec x = true) {o1 o2 b1 b2 d1 d2 : Int} (ho : o1 ≤ o2) (hb : b1 ≤ b2) (hd : d1 ≤ d2) : eased s x o1 b1 d1 ≤ eased s x o2 b2 d2 := by
  obtain ⟨k0, k1, k2, k3, k4, k5, k6, k7, k8, k9⟩ := of_decide_eq_true hx
  obtain ⟨g0, g1, g2, g3, g4, g5, g6, g7, g8⟩ := hh
  have m1 : (64 - x.fol) * o1 ≤ (64 - x.fol) * o2 := Int.mul_le_mul_of_nonneg_left ho (by omega)
  have m2 : x.fol * b1 ≤ x.fol * b2 := Int.mul_le_mul_of_nonneg_left hb k2
  have m3 : ((64 - x.fol) * o1 + x.fol * b1) / 64 ≤ ((64 - x.fol) * o2 + x.fol * b2) / 64 := ediv_mono (by omega)
  simp only [eased]
  generalize ((64 - x.fol) * o1 + x.fol * b1) / 64 = q1 at *
  generalize ((64 - x.fol) * o2 + x.fol * b2) / 64 = q2 at *
  repeat' split
  all_goals omega
theorem eased_in (s : Strm) (x : Sec) (o b d : Int) : -16384 ≤ eased s x o b d ∧ eased s x o b d ≤ 16384 := by
  simp only [eased]
  omega
theorem encL_ok {s : Strm} {l : List Bnd} {d : Bnd} (ho : okStrm s = true) (hl : okOffs s l = true) (hd : okBnd 100 d = true) : okOffs s (encL s l d) = true := by
  have hlen := okOffs_len hl
  have hall := okOffs_all hl
  obtain ⟨d1, d2, d3⟩ := of_decide_eq_true (p := -100 ≤ d.lo ∧ d.lo ≤ d.hi ∧ d.hi ≤ 100) hd
  unfold okOffs
  rw [Bool.and_eq_true]
  constructor
  · rw [decide_eq_true_eq, encL, eachL_length, hlen]
  · rw [List.all_eq_true]
    intro y hy
    obtain ⟨j, hj⟩ := List.mem_iff_getElem?.1 hy
    have hjl : j < l.length := by have := (List.getElem?_eq_some_iff.1 hj).1; simpa [encL, eachL_length] using this
    rw [encL, eachL_get _ _ _ hjl] at hj
    injection hj with hj
    subst hj
    obtain ⟨_, p2, _⟩ := okB_of hall (okB_still (ok_head ho)) j
    obtain ⟨_, p5, _⟩ := okB_prev hall (okB_still (ok_head ho)) j
    have hx := ok_sec ho (i := j) (by omega)
    refine decide_eq_true ⟨(eased_in _ _ _ _ _).1, eased_mono (ok_head ho) hx p2 p5 d2, (eased_in _ _ _ _ _).2⟩
theorem okWat_get {l : List Wat} (h : l.all okWat = true) (k : Nat) : okBnd 100 (l.getD k wat0).acr = true ∧ okBnd 50 (l.getD k wat0).alo = true := by
  rw [List.getD_eq_getElem?_getD]
  by_cases hi : k < l.length
  · rw [List.getElem?_eq_getElem hi]
    have := List.all_eq_true.1 h _ (List.getElem_mem hi)
    simpa [okWat] using this
  · rw [List.getElem?_eq_none (by omega)]
    constructor <;> decide
theorem encAt_ok {s : Strm} {bs : List Bnd} {l : List Wat} (ho : okStrm s = true) (hb : okOffs s bs = true) (hl : l.all okWat = true) : ∀ k, okOffs s (encAt s bs l k) = true
  | 0 => hb
  | k + 1 => encL_ok ho (encAt_ok ho hb hl k) (okWat_get hl k).1
/-- What steps leans on: the towed streamer and the waters, boxed. -/
def StepsL (s : Strm) (bs : List Bnd) (l : List Wat) (A O D : Option Addr) (n c co nd cd gt gl : Nat) (W : World) : Prop :=
  Blk W gt 81 #[.int .i64 s.head, .slice A n c, .int .i64 s.lane.lo, .int .i64 s.lane.hi, .int .i64 s.bend, .slice O n co] ∧ Blk W gl 32 #[.slice D nd cd] ∧
  SlAt W 0 5 Sec.cells A n c s.secs ∧ SlAt W 0 2 Bnd.cells O n co bs ∧ SlAt W 0 4 Wat.cells D nd cd l
theorem StepsL.calm {s : Strm} {bs : List Bnd} {l : List Wat} {A O D : Option Addr} {n c co nd cd gt gl B : Nat} {W W' : World} (h : StepsL s bs l A O D n c co nd cd gt gl W) (hc : Calm B W W') : StepsL s bs l A O D n c co nd cd gt gl W' :=
  ⟨calm_blk hc h.1, calm_blk hc h.2.1, calm_sl hc h.2.2.1, calm_sl hc h.2.2.2.1, calm_sl hc h.2.2.2.2⟩
theorem StepsL.below {s : Strm} {bs : List Bnd} {l : List Wat} {A O D : Option Addr} {n c co nd cd gt gl : Nat} {W W' : World} (h : StepsL s bs l A O D n c co nd cd gt gl W) (hc : Below W.heap.size W W') : StepsL s bs l A O D n c co nd cd gt gl W' :=
  h.calm (calm_of_below hc (Nat.le_refl _))
/-- What steps hands on in a round: the index, and the bounds after this step. -/
def StepsG (s : Strm) (bs : List Bnd) (l : List Wat) (n gl k : Nat) (vs : Array Value) (W : World) : Prop :=
  ∃ O co, vs = #[.int .i64 k, .slice O n co] ∧ SlAt W (gl + 1) 2 Bnd.cells O n co (encAt s bs l (k + 1))
theorem wat_getD {l : List Wat} {k : Nat} {x : Wat} (h : l[k]? = some x) : l.getD k wat0 = x := by rw [List.getD_eq_getElem?_getD, h]; rfl

theorem steps1_iter (m : Nat) (s : Strm) (bs : List Bnd) (l : List Wat) (A O D : Option Addr) (n c co nd cd gt gl : Nat) (ho : okStrm s = true) (hb0 : okOffs s bs = true) (hl0 : l.all okWat = true) :
    IterK Fence.wide m Tryz.prog 52 #[.pointer (some ⟨gt, 0, none⟩), .pointer (some ⟨gl, 0, none⟩)] nd (StepsG s bs l n gl) (StepsL s bs l A O D n c co nd cd gt gl) := by
  intro lr J Jx W hJ hJx hY hL h0
  have hnl := Lib.hid hL.2.2.2.2.len
  have hnd := hL.2.2.2.2.le
  replace ho := Lib.hid ho
  replace hb0 := Lib.hid hb0
  replace hl0 := Lib.hid hl0
  refine callsIn_of_wp Tryz.func52 rfl trivial ?_ rfl
  simp only [Tryz.ntmps52, List.size_toArray, List.length_cons, List.length_nil, Nat.reduceAdd, Nat.reduceSub, Array.replicate_succ, Array.replicate_zero, List.push_toArray, List.append_toArray, List.nil_append, List.cons_append]
  obtain ⟨c1, f1, l1⟩ := hL.1.rules
  obtain ⟨c2, f2, l2⟩ := hL.2.1.rules
  gi_wp2_with fail
  clear c1 f1 l1 c2 f2 l2
  gi_loopw [4, 11] (fun b i wr => ∃ k O' co', i = .int .i64 (k : Nat) ∧ k ≤ nd ∧ b = .slice O' n co' ∧ SlAt wr 0 2 Bnd.cells O' n co' (encAt s bs l k) ∧ StepsL s bs l A O D n c co nd cd gt gl wr ∧ W.heap.size ≤ wr.heap.size ∧ J k wr) (fun b i wr => nd - (intOf i).toNat)
  case atStart => exact ⟨0, O, co, rfl, Nat.zero_le _, rfl, hL.2.2.2.1, hL, Nat.le_refl _, h0⟩
  case round =>
    obtain ⟨k, O', co', rfl, hk, rfl, hs, hLr, hWr, hJr⟩ := hrel
    by_cases hlt : k < nd
    · obtain ⟨x, hx⟩ := some_of_lt hnl.out hlt
      obtain ⟨b, off, hA, -, hbl, e0, e1, e2, e3⟩ := hLr.2.2.2.2.wat hx
      have hxk := Lib.hid (wat_getD hx)
      obtain ⟨c1, f1, l1⟩ := hLr.1.rules
      obtain ⟨c2, f2, l2⟩ := hLr.2.1.rules
      replace hx := Lib.hid hx
      subst hA
      gi_wp2_with fail
      refine ⟨trivial, fun h => (by cases h), ?_⟩
      have hbw : Below wr.heap.size wr (wr.alloc (.cells #[.int .i64 x.acr.lo, .int .i64 x.acr.hi, .int .i64 x.alo.lo, .int .i64 x.alo.hi] 91)) := (Below.refl _ _).alloc (Nat.le_refl _) _
      have hax := Lib.hid (hxk.out ▸ (okWat_get hl0.out k).1)
      refine (callsIn_wide.2 (enclosed_any s A O' n c n co' 0 0 (encAt s bs l k) x.acr _ ho.out (encAt_ok ho.out hb0.out hl0.out k) hax.out (hLr.2.2.1.alloc _) (hs.alloc _))).mono ?_
      rintro e w2 ⟨O2, co2, rfl, hown, hr, hb2⟩
      have b2 := hbw.trans (hb2.mono hbw.size)
      have hs2 : SlAt w2 W.heap.size 2 Bnd.cells O2 n co2 (encAt s bs l (k + 1)) := by
        have : encAt s bs l (k + 1) = encL s (encAt s bs l k) x.acr := by rw [encAt, hxk.out]
        rw [this]; exact hr.mono (by simp; omega)
      have hL2 := hLr.below b2
      clear hown hr c1 f1 l1 c2 f2 l2 e0 e1 e2 e3 hb2 hbw hs
      obtain ⟨fn, tmps, assign, body, hy, hR⟩ := hY k #[.int .i64 k, .slice O2 n co2] w2 hlt (hJ _ _ _ hJr (calm_of_below b2 hWr)) hL2 ⟨O2, co2, rfl, hs2.mono hL.2.1.lt⟩
      clear hY
      gi_wp2_with fail
      refine ⟨fun h => (by cases h), hR.mono ?_⟩
      rintro e W3 (⟨rfl, hJ3, hL3, hn3⟩ | ⟨rfl, hJx3, -⟩)
      · gi_wp2
        go_roundw
        case rel => exact ⟨k + 1, O2, co2, by go_num, by omega, rfl, (nc_sl hn3 hs2).mono (Nat.zero_le _), hL3, Nat.le_trans hWr (Nat.le_trans b2.size hn3.1), hJ3⟩
        case measure => simp [intOf]; omega
      · gi_wp2
        refine bodyPost_ret (results_none rfl _ _ _) rfl ?_
        exact ⟨⟨_, rfl⟩, .inr hJx3⟩
    · obtain rfl : k = nd := by omega
      gi_wp2
      go_end0
      exact ⟨⟨_, rfl⟩, .inl hJr⟩
theorem eg_steps1 : Enters Tryz.prog 52 := enters_of Tryz.func52 (by kernel_rfl) rfl
theorem steps_any (s : Strm) (A O D : Option Addr) (n c co no nd cd : Nat) (w : World) :
    Calls Tryz.prog 22 #[.agg #[.int .i64 s.head, .slice A n c, .int .i64 s.lane.lo, .int .i64 s.lane.hi, .int .i64 s.bend, .slice O no co], .slice D nd cd] w fun e w' =>
      e = .returned (.func (.func 52) #[] #[.pointer (some ⟨w.heap.size, 0, none⟩), .pointer (some ⟨w.heap.size + 1, 0, none⟩)]) ∧
      w' = (w.alloc (.cells #[.int .i64 s.head, .slice A n c, .int .i64 s.lane.lo, .int .i64 s.lane.hi, .int .i64 s.bend, .slice O no co] 81)).alloc (.cells #[.slice D nd cd] 32) := by
  go_enter Tryz.func22, Tryz.ntmps22
  go_wp2
  go_ret
  exact ⟨rfl, rfl⟩

end Go.Proofs.YtcmbmmpihiekhaaGreat
namespace Go.Proofs.YtcmbmmpihiekhaaGreat
open Go.RowKit Go.Shelf
attribute [local go_sem] Oper.semAt_some

theorem fstN_step (p : Nat → Bool) (k : Nat) : fstN p (k + 1) = if 0 ≤ fstN p k then fstN p k else if p k = true then (k : Int) else -1 := rfl
theorem fstN_bd (p : Nat → Bool) : ∀ k, -1 ≤ fstN p k ∧ fstN p k < k
  | 0 => by simp [fstN]
  | k + 1 => by
    have := fstN_bd p k
    rw [fstN_step]
    repeat' split
    all_goals omega
/-! strain -/
def StrI (s : Strm) (A O D V : Option Addr) (n c co nd cd nv cv : Nat) (w : World) (xb xp : Int) (W : World) : Prop :=
  Blk W w.heap.size 81 #[.int .i64 s.head, .slice A n c, .int .i64 s.lane.lo, .int .i64 s.lane.hi, .int .i64 s.bend, .slice O n co] ∧ Blk W (w.heap.size + 1) 32 #[.slice D nd cd] ∧
  Blk W (w.heap.size + 1 + 1) 33 #[.slice V nv cv] ∧ Blk W (w.heap.size + 1 + 1 + 1) 165 #[.int .i64 0, .int .i64 0] ∧
  Blk W (w.heap.size + 1 + 1 + 1 + 1) 165 #[.int .i64 xb, .int .i64 xp] ∧ Below w.heap.size w W
section
variable {s : Strm} {A O D V : Option Addr} {n c co nd cd nv cv : Nat} {w W W' : World} {xb xp : Int}
theorem StrI.calm {B : Nat} (h : StrI s A O D V n c co nd cd nv cv w xb xp W) (hc : Calm B W W') (hB : w.heap.size ≤ B) : StrI s A O D V n c co nd cd nv cv w xb xp W' :=
  ⟨calm_blk hc h.1, calm_blk hc h.2.1, calm_blk hc h.2.2.1, calm_blk hc h.2.2.2.1, calm_blk hc h.2.2.2.2.1, calm_below hc h.2.2.2.2.2 hB⟩
theorem StrI.below (h : StrI s A O D V n c co nd cd nv cv w xb xp W) (hb : Below W.heap.size W W') : StrI s A O D V n c co nd cd nv cv w xb xp W' := h.calm (calm_of_below hb (Nat.le_refl _)) h.2.2.2.2.2.size
theorem StrI.set0 (h : StrI s A O D V n c co nd cd nv cv w xb xp W) (x : Int) : StrI s A O D V n c co nd cd nv cv w x xp (W.setCell ⟨w.heap.size + 1 + 1 + 1 + 1, 0, none⟩ (.int .i64 x)) :=
  ⟨h.1.far (by dsimp only; omega) _, h.2.1.far (by dsimp only; omega) _, h.2.2.1.far (by dsimp only; omega) _, h.2.2.2.1.far (by dsimp only; omega) _, h.2.2.2.2.1.set_ 0 _, h.2.2.2.2.2.setCell (by dsimp only; omega) _⟩
theorem StrI.set1 (h : StrI s A O D V n c co nd cd nv cv w xb xp W) (x : Int) : StrI s A O D V n c co nd cd nv cv w xb x (W.setCell ⟨w.heap.size + 1 + 1 + 1 + 1, 1, none⟩ (.int .i64 x)) :=
  ⟨h.1.far (by dsimp only; omega) _, h.2.1.far (by dsimp only; omega) _, h.2.2.1.far (by dsimp only; omega) _, h.2.2.2.1.far (by dsimp only; omega) _, h.2.2.2.2.1.set_ 1 _, h.2.2.2.2.2.setCell (by dsimp only; omega) _⟩
theorem StrI.drew (h : StrI s A O D V n c co nd cd nv cv w xb xp W) : StrI s A O D V n c co nd cd nv cv w xb xp W.drew := ⟨h.1, h.2.1, h.2.2.1, h.2.2.2.1, h.2.2.2.2.1, h.2.2.2.2.2.drew⟩
theorem StrI.drewN (h : StrI s A O D V n c co nd cd nv cv w xb xp W) (q : Nat) : StrI s A O D V n c co nd cd nv cv w xb xp (W.drewN q) := h.calm (B := w.heap.size) (calm_of_below (below_drewN (Below.refl _ _) q) h.2.2.2.2.2.size) (Nat.le_refl _)
theorem StepsL.drew {bs : List Bnd} {l : List Wat} {gt gl : Nat} (h : StepsL s bs l A O D n c co nd cd gt gl W) : StepsL s bs l A O D n c co nd cd gt gl W.drew := h
theorem StepsL.base {bs : List Bnd} {l : List Wat} {gt gl : Nat} (hb : Below w.heap.size w W) (hss : SlAt w 0 5 Sec.cells A n c s.secs) (hs : SlAt w 0 2 Bnd.cells O n co bs) (hd : SlAt w 0 4 Wat.cells D nd cd l)
    (h1 : Blk W gt 81 #[.int .i64 s.head, .slice A n c, .int .i64 s.lane.lo, .int .i64 s.lane.hi, .int .i64 s.bend, .slice O n co]) (h2 : Blk W gl 32 #[.slice D nd cd]) : StepsL s bs l A O D n c co nd cd gt gl W :=
  have e : ∀ p : Addr, 0 ≤ p.block → p.block < w.heap.size → W.cell? p = w.cell? p := fun p _ hp => hb.cell hp
  ⟨h1, h2, hss.keep hb.size e, hs.keep hb.size e, hd.keep hb.size e⟩
end
theorem strain_any (s : Strm) (bs : List Bnd) (l : List Wat) (v : List Int) (A O D V : Option Addr) (n c co nd cd nv cv : Nat) (w : World) (ho : okStrm s = true) (hb0 : okOffs s bs = true) (hl0 : l.all okWat = true) (hv : okSpeeds v = true) (hvl : v.length = l.length)
    (hss : SlAt w 0 5 Sec.cells A n c s.secs) (hs : SlAt w 0 2 Bnd.cells O n co bs) (hd : SlAt w 0 4 Wat.cells D nd cd l) (hvv : SlAt w 0 1 ivs V nv cv v) :
    Calls Tryz.prog 65 #[.agg #[.int .i64 s.head, .slice A n c, .int .i64 s.lane.lo, .int .i64 s.lane.hi, .int .i64 s.bend, .slice O n co], .slice D nd cd, .slice V nv cv] w fun e w' =>
      e = .returned (.agg #[.int .i64 (strainS s bs l v nd).1, .int .i64 (strainS s bs l v nd).2]) ∧ Below w.heap.size w w' := by
  refine (callsIn_wide (n := 9)).1 ?_
  refine callsIn_of_wp_marks Tryz.func65 rfl trivial ?_ rfl
  simp only [Tryz.ntmps65, List.size_toArray, List.length_cons, List.length_nil, Nat.reduceAdd, Nat.reduceSub, Array.replicate_succ, Array.replicate_zero, List.push_toArray, List.append_toArray, List.nil_append, List.cons_append]
  gi_wp2_with fail
  refine ⟨trivial, ?_⟩
  refine (callsIn_wide.2 (steps_any s A O D n c co n nd cd _)).mono ?_
  rintro e w1 ⟨rfl, rfl⟩
  gi_wp2_with fail
  obtain ⟨W0, hW0⟩ : ∃ W0, W0 = ((((((w.alloc (.cells #[.int .i64 s.head, .slice A n c, .int .i64 s.lane.lo, .int .i64 s.lane.hi, .int .i64 s.bend, .slice O n co] 81)).alloc (.cells #[.slice D nd cd] 32)).alloc (.cells #[.slice V nv cv] 33)).alloc (.cells #[.int .i64 0, .int .i64 0] 165)).alloc (.cells #[.int .i64 (-1), .int .i64 (-1)] 165)).alloc (.cells #[.int .i64 s.head, .slice A n c, .int .i64 s.lane.lo, .int .i64 s.lane.hi, .int .i64 s.bend, .slice O n co] 81)).alloc (.cells #[.slice D nd cd] 32) := ⟨_, rfl⟩
  rw [← hW0]
  have hI0 : StrI s A O D V n c co nd cd nv cv w (-1) (-1) W0 := by
    rw [hW0]
    exact ⟨((((((Blk.newAt rfl).alloc _).alloc _).alloc _).alloc _).alloc _).alloc _, (((((Blk.newAt (by simp)).alloc _).alloc _).alloc _).alloc _).alloc _, ((((Blk.newAt (by simp)).alloc _).alloc _).alloc _).alloc _, (((Blk.newAt (by simp)).alloc _).alloc _).alloc _,
      ((Blk.newAt (by simp)).alloc _).alloc _, by repeat (first | exact Below.refl _ _ | (refine Below.alloc ?_ (by simp <;> omega) _))⟩
  have kt : Blk W0 (w.heap.size + 1 + 1 + 1 + 1 + 1) 81 #[.int .i64 s.head, .slice A n c, .int .i64 s.lane.lo, .int .i64 s.lane.hi, .int .i64 s.bend, .slice O n co] := by rw [hW0]; exact (Blk.newAt (by simp)).alloc _
  have kl : Blk W0 (w.heap.size + 1 + 1 + 1 + 1 + 1 + 1) 32 #[.slice D nd cd] := by rw [hW0]; exact Blk.newAt (by simp)
  have hLs : StepsL s bs l A O D n c co nd cd (w.heap.size + 1 + 1 + 1 + 1 + 1) (w.heap.size + 1 + 1 + 1 + 1 + 1 + 1) W0 := StepsL.base hI0.2.2.2.2.2 hss hs hd kt kl
  have hsz : W0.heap.size = w.heap.size + 7 := by rw [hW0]; simp
  clear hW0 kt kl
  refine wp_range rfl (by decide) (gf := 52) (lb := #[.pointer (some ⟨w.heap.size + 1 + 1 + 1 + 1 + 1, 0, none⟩), .pointer (some ⟨w.heap.size + 1 + 1 + 1 + 1 + 1 + 1, 0, none⟩)]) rfl trivial eg_steps1
    (steps1_iter _ s bs l A O D n c co nd cd _ _ ho hb0 hl0) (fun k vs W ⟨O', co', e, _⟩ => by rw [e]; rfl)
    (fun k W => StrI s A O D V n c co nd cd nv cv w (fstN (bentN s bs l) k) (fstN (pulledN s bs l v) k) W)
    (fun _ _ => False) (fun k A B h hc => h.calm hc (by omega)) (fun _ _ _ h _ => h) (fun A B h hc => h.calm hc) hI0 hLs ?round ?done ?stop
  case stop => exact fun _ _ _ _ h _ => h.elim
  case done =>
    rintro D0 W hD ⟨-, -, -, k6, k7, hb⟩ hK
    obtain ⟨c6, f6, l6⟩ := k6.rules
    obtain ⟨c7, f7, l7⟩ := k7.rules
    have k7' := k7.far (p := ⟨w.heap.size + 1 + 1 + 1, 0, none⟩) (by dsimp only; omega) (.int .i64 (fstN (bentN s bs l) nd))
    have k6' := k6.set_ 0 (.int .i64 (fstN (bentN s bs l) nd))
    have k6'' := k6'.set_ 1 (.int .i64 (fstN (pulledN s bs l v) nd))
    have hK' : (W.setCell ⟨w.heap.size + 1 + 1 + 1, 0, none⟩ (.int .i64 (fstN (bentN s bs l) nd))).heap[D0]? = _ := (Below.heap_setCell _ _ _ _ (by dsimp only; omega)).trans hK
    have hK'' : ((W.setCell ⟨w.heap.size + 1 + 1 + 1, 0, none⟩ (.int .i64 (fstN (bentN s bs l) nd))).setCell ⟨w.heap.size + 1 + 1 + 1, 1, none⟩ (.int .i64 (fstN (pulledN s bs l v) nd))).heap[D0]? = _ := (Below.heap_setCell _ _ _ _ (by dsimp only; omega)).trans hK'
    have hbe := ((hb.setCell (p := ⟨w.heap.size + 1 + 1 + 1, 0, none⟩) (by dsimp only; omega) (.int .i64 (fstN (bentN s bs l) nd))).setCell (p := ⟨w.heap.size + 1 + 1 + 1, 1, none⟩) (by dsimp only; omega) (.int .i64 (fstN (pulledN s bs l v) nd)))
    gi_wp2_with fail
    generalize ((W.setCell ⟨w.heap.size + 1 + 1 + 1, 0, none⟩ (.int .i64 (fstN (bentN s bs l) nd))).setCell ⟨w.heap.size + 1 + 1 + 1, 1, none⟩ (.int .i64 (fstN (pulledN s bs l v) nd))) = We at *
    refine ⟨by simp, .inl ⟨_, _, rfl, run_takeDeferred hK'', ?_⟩⟩
    have hpu : Below w.heap.size w (We.putObj D0 (.deferred none)) := calm_below (calm_put (B := w.heap.size) _ hK'' rfl (by omega)) hbe (Nat.le_refl _)
    have k6e := calm_blk (calm_put (B := w.heap.size) (.deferred none) hK'' rfl (by omega)) k6''
    obtain ⟨c6, f6, l6⟩ := k6e.rules
    refine ⟨.agg #[.int .i64 (strainS s bs l v nd).1, .int .i64 (strainS s bs l v nd).2], ?_, rfl, hpu⟩
    simp [results, Tryz.results65, go_sem, c6, strainS]
  case round =>
    rintro lr k vs W hW hk hI hL ⟨O', co', rfl, hG⟩
    gi_wp2_with fail
    refine ⟨Below.refl _ _, fun W2 hc => ?_⟩
    replace hI := hI.calm hc (by omega)
    replace hL := hL.calm hc
    replace hG := calm_sl hc hG
    clear hc
    have hxb := (fstN_bd (bentN s bs l) k).1
    have hxp := (fstN_bd (pulledN s bs l v) k).1
    have hsb := Lib.hid (fstN_step (bentN s bs l) k)
    have hsp := Lib.hid (fstN_step (pulledN s bs l v) k)
    have hnd := hL.2.2.2.2.len
    obtain ⟨x, hx⟩ := some_of_lt hnd hk
    obtain ⟨y, hy⟩ := some_of_lt (show v.length = nd by omega) hk
    have hxx := wat_getD hx
    have hyy : v.getD k 0 = y := by rw [List.getD_eq_getElem?_getD, hy]; rfl
    have hbn : Hid (bentN s bs l k = bentS s (encAt s bs l (k + 1))) := rfl
    have hpn : Hid (pulledN s bs l v k = pulledS s (encAt s bs l (k + 1)) y x.alo) := by show pulledN s bs l v k = _; rw [pulledN, hyy, hxx]
    have hxk := Lib.hid (hxx ▸ (okWat_get hl0 k).2)
    have hyk := Lib.hid (List.all_eq_true.1 hv y (List.mem_of_getElem? hy))
    have hek := Lib.hid (encAt_ok ho hb0 hl0 (k + 1))
    have hk0 : (0 : Int) ≤ (k : Int) := by omega
    have hk1 : (k : Int) < (nd : Int) := by omega
    have hk2 : (k : Int) < (nv : Int) := by have := hvv.len; omega
    generalize fstN (bentN s bs l) k = xb at *
    generalize fstN (pulledN s bs l v) k = xp at *
    replace ho := Lib.hid ho
    replace hb0 := Lib.hid hb0
    replace hl0 := Lib.hid hl0
    replace hv := Lib.hid hv
    replace hx := Lib.hid hx
    replace hy := Lib.hid hy
    clear hxx hyy hI0 hLs
    replace hnd := Lib.hid hnd
    replace hvl := Lib.hid hvl
    replace hsz := Lib.hid hsz
    by_cases hx1 : xb < 0
    · obtain ⟨c3, f3, l3⟩ := hI.1.rules
      obtain ⟨c7, f7, l7⟩ := hI.2.2.2.2.1.rules
      gi_wp2_with fail
      refine ⟨trivial, ?_⟩
      have hcb := bent_any s A O' n c n co' _ (encAt s bs l (k + 1)) W2 (ok_head ho.out) (okOffs_all hek.out) hG
      obtain ⟨bb, hbb⟩ : ∃ bb, bentS s (encAt s bs l (k + 1)) = bb := ⟨_, rfl⟩
      rw [hbb] at hcb
      refine (CallsIn.inRound lr (callsIn_wide.2 hcb)).mono ?_
      rintro e w5 ⟨rfl, hb5⟩
      clear c3 f3 l3 c7 f7 l7 hcb
      replace hI := hI.below hb5
      replace hL := hL.below hb5
      replace hG := hG.below hb5
      have hn := nc_of_below (B := W0.heap.size) hb5
      cases bb with
      | false =>
        gi_wp2_with fail
        have hBB : fstN (bentN s bs l) (k + 1) = xb := by rw [hsb.out, if_neg (by omega), hbn.out, hbb]; simp; omega
        replace hBB := Lib.hid hBB
        have hn3 := hn
        have hL3 := hL
        have hG3 := hG
        have hI3 := hI
        by_cases hx2 : xp < 0
        · obtain ⟨k3, k4, k5, -, k7, hb⟩ := hI3
          obtain ⟨c3, f3, l3⟩ := k3.rules
          obtain ⟨c4, f4, l4⟩ := k4.rules
          obtain ⟨c5, f5, l5⟩ := k5.rules
          obtain ⟨c7, f7, l7⟩ := k7.rules
          obtain ⟨b1, o1, hA1, -, -, e0⟩ := (hvv.keep hb.size (fun p _ hp => hb.cell hp)).int hy.out
          obtain ⟨b2, o2, hA2, -, -, -, -, e3, e4⟩ := hL3.2.2.2.2.wat hx.out
          subst hA1
          subst hA2
          clear k3 k4 k5 k7 hb
          gi_wp2_with fail
          (refine wpIn_tail_round 16 (by kernel_rfl) (by kernel_rfl) (by kernel_rfl) ?_ ?_; rotate_left 1; simp only [List.take_succ_cons, List.take_zero, List.drop_succ_cons, List.drop_zero]; (iterate 16 still_step); apply still_end; rotate_left 1; (rintro ⟨_, _, h⟩; exact h))
          clear c3 f3 l3 c4 f4 l4 c5 f5 l5 c7 f7 l7 e0 e3 e4
          have hI4 := hI.drew
          have hL4 := hL3.drew
          have hG4 := hG3.drew
          have hn4 := hn3.trans (nc_drew w5)
          generalize w5.drew = W4 at *
          have hcp := pulled_any s A O' n c co' 0 _ (encAt s bs l (k + 1)) y x.alo W4 ho.out hek.out hyk.out hxk.out hL4.2.2.1 hG4
          obtain ⟨pb, hpb⟩ : ∃ pb, pulledS s (encAt s bs l (k + 1)) y x.alo = pb := ⟨_, rfl⟩
          rw [hpb] at hcp
          go_wp2_with fail
          refine hcp.mono ?_
          rintro e w5 ⟨rfl, hb5⟩
          clear hcp
          replace hI4 := hI4.below hb5
          replace hL4 := hL4.below hb5
          replace hn4 := hn4.trans (nc_of_below hb5)
          obtain ⟨c7, f7, l7⟩ := hI4.2.2.2.2.1.rules
          cases pb with
          | false =>
            go_wp2_with fail
            try gi_wp2_with fail
            refine ⟨hn4, ?_, hL4⟩
            rw [hBB.out, show fstN (pulledN s bs l v) (k + 1) = xp by rw [hsp.out, if_neg (by omega), hpn.out, hpb]; simp; omega]
            exact hI4
          | true =>
            go_wp2_with fail
            try gi_wp2_with fail
            refine ⟨hn4.trans (nc_setCell _ _ _ (by have := hsz.out; dsimp only; omega)), ?_, StepsL.base (hI4.set1 _).2.2.2.2.2 hss hs hd (hL4.1.far (by dsimp only; omega) _) (hL4.2.1.far (by dsimp only; omega) _)⟩
            rw [hBB.out, hsp.out, if_neg (by omega), hpn.out, hpb]
            exact hI4.set1 _
        · obtain ⟨c7, f7, l7⟩ := hI3.2.2.2.2.1.rules
          gi_wp2_with fail
          have hx2n : (xp < 0) = False := eq_false (by omega)
          (refine wpIn_quiet_round (by kernel_rfl) (by kernel_rfl) (by kernel_rfl) ?_ ?_; rotate_left 1; (iterate 18 (go_big_quiet_step (fail))); apply quiet_end; rintro _ ⟨nq, rfl⟩; rotate_left 1; (rintro ⟨_, _, h⟩; exact h))
          clear c7 f7 l7
          try gi_wp2_with fail
          refine ⟨hn3.trans (nc_drewN _ _), ?_, hL3⟩
          rw [hBB.out, hsp.out, if_pos (by omega)]
          exact hI3.drewN _
      | true =>
        obtain ⟨c7, f7, l7⟩ := hI.2.2.2.2.1.rules
        gi_wp2_with fail
        clear c7 f7 l7
        have hBB : fstN (bentN s bs l) (k + 1) = k := by rw [hsb.out, if_neg (by omega), hbn.out, hbb]; rfl
        replace hBB := Lib.hid hBB
        have hI' := hI.set0 k
        have hn3 := hn.trans (nc_setCell w5 ⟨w.heap.size + 1 + 1 + 1 + 1, 0, none⟩ (.int .i64 k) (by have := hsz.out; dsimp only; omega))
        have hL3 : StepsL s bs l A O D n c co nd cd _ _ _ := StepsL.base hI'.2.2.2.2.2 hss hs hd (hL.1.far (p := ⟨w.heap.size + 1 + 1 + 1 + 1, 0, none⟩) (by dsimp only; omega) (.int .i64 k)) (hL.2.1.far (by dsimp only; omega) _)
        have hG3 := hG.setCell (p := ⟨w.heap.size + 1 + 1 + 1 + 1, 0, none⟩) (by dsimp only; omega) (.int .i64 k)
        generalize w5.setCell ⟨w.heap.size + 1 + 1 + 1 + 1, 0, none⟩ (.int .i64 k) = W3 at *
        clear hI hL hG hn
        have hI3 := hI'
        by_cases hx2 : xp < 0
        · obtain ⟨k3, k4, k5, -, k7, hb⟩ := hI3
          obtain ⟨c3, f3, l3⟩ := k3.rules
          obtain ⟨c4, f4, l4⟩ := k4.rules
          obtain ⟨c5, f5, l5⟩ := k5.rules
          obtain ⟨c7, f7, l7⟩ := k7.rules
          obtain ⟨b1, o1, hA1, -, -, e0⟩ := (hvv.keep hb.size (fun p _ hp => hb.cell hp)).int hy.out
          obtain ⟨b2, o2, hA2, -, -, -, -, e3, e4⟩ := hL3.2.2.2.2.wat hx.out
          subst hA1
          subst hA2
          clear k3 k4 k5 k7 hb
          gi_wp2_with fail
          (refine wpIn_tail_round 16 (by kernel_rfl) (by kernel_rfl) (by kernel_rfl) ?_ ?_; rotate_left 1; simp only [List.take_succ_cons, List.take_zero, List.drop_succ_cons, List.drop_zero]; (iterate 16 still_step); apply still_end; rotate_left 1; (rintro ⟨_, _, h⟩; exact h))
          clear c3 f3 l3 c4 f4 l4 c5 f5 l5 c7 f7 l7 e0 e3 e4
          have hI4 := hI'.drew
          have hL4 := hL3.drew
          have hG4 := hG3.drew
          have hn4 := hn3.trans (nc_drew W3)
          generalize W3.drew = W4 at *
          have hcp := pulled_any s A O' n c co' 0 _ (encAt s bs l (k + 1)) y x.alo W4 ho.out hek.out hyk.out hxk.out hL4.2.2.1 hG4
          obtain ⟨pb, hpb⟩ : ∃ pb, pulledS s (encAt s bs l (k + 1)) y x.alo = pb := ⟨_, rfl⟩
          rw [hpb] at hcp
          go_wp2_with fail
          refine hcp.mono ?_
          rintro e w5 ⟨rfl, hb5⟩
          clear hcp
          replace hI4 := hI4.below hb5
          replace hL4 := hL4.below hb5
          replace hn4 := hn4.trans (nc_of_below hb5)
          obtain ⟨c7, f7, l7⟩ := hI4.2.2.2.2.1.rules
          cases pb with
          | false =>
            go_wp2_with fail
            try gi_wp2_with fail
            refine ⟨hn4, ?_, hL4⟩
            rw [hBB.out, show fstN (pulledN s bs l v) (k + 1) = xp by rw [hsp.out, if_neg (by omega), hpn.out, hpb]; simp; omega]
            exact hI4
          | true =>
            go_wp2_with fail
            try gi_wp2_with fail
            refine ⟨hn4.trans (nc_setCell _ _ _ (by have := hsz.out; dsimp only; omega)), ?_, StepsL.base (hI4.set1 _).2.2.2.2.2 hss hs hd (hL4.1.far (by dsimp only; omega) _) (hL4.2.1.far (by dsimp only; omega) _)⟩
            rw [hBB.out, hsp.out, if_neg (by omega), hpn.out, hpb]
            exact hI4.set1 _
        · obtain ⟨c7, f7, l7⟩ := hI3.2.2.2.2.1.rules
          gi_wp2_with fail
          have hx2n : (xp < 0) = False := eq_false (by omega)
          (refine wpIn_quiet_round (by kernel_rfl) (by kernel_rfl) (by kernel_rfl) ?_ ?_; rotate_left 1; (iterate 18 (go_big_quiet_step (fail))); apply quiet_end; rintro _ ⟨nq, rfl⟩; rotate_left 1; (rintro ⟨_, _, h⟩; exact h))
          clear c7 f7 l7
          try gi_wp2_with fail
          refine ⟨hn3.trans (nc_drewN _ _), ?_, hL3⟩
          rw [hBB.out, hsp.out, if_pos (by omega)]
          exact hI3.drewN _
    · obtain ⟨c7, f7, l7⟩ := hI.2.2.2.2.1.rules
      gi_wp2_with fail
      refine ⟨trivial, ?_⟩
      clear c7 f7 l7
      have hBB : fstN (bentN s bs l) (k + 1) = xb := by rw [hsb.out, if_pos (by omega)]
      replace hBB := Lib.hid hBB
      have hn3 := NC.refl W0.heap.size W2
      have hL3 := hL
      have hG3 := hG
      have hI3 := hI
      by_cases hx2 : xp < 0
      · obtain ⟨k3, k4, k5, -, k7, hb⟩ := hI3
        obtain ⟨c3, f3, l3⟩ := k3.rules
        obtain ⟨c4, f4, l4⟩ := k4.rules
        obtain ⟨c5, f5, l5⟩ := k5.rules
        obtain ⟨c7, f7, l7⟩ := k7.rules
        obtain ⟨b1, o1, hA1, -, -, e0⟩ := (hvv.keep hb.size (fun p _ hp => hb.cell hp)).int hy.out
        obtain ⟨b2, o2, hA2, -, -, -, -, e3, e4⟩ := hL3.2.2.2.2.wat hx.out
        subst hA1
        subst hA2
        clear k3 k4 k5 k7 hb
        gi_wp2_with fail
        (refine wpIn_tail_round 16 (by kernel_rfl) (by kernel_rfl) (by kernel_rfl) ?_ ?_; rotate_left 1; simp only [List.take_succ_cons, List.take_zero, List.drop_succ_cons, List.drop_zero]; (iterate 16 still_step); apply still_end; rotate_left 1; (rintro ⟨_, _, h⟩; exact h))
        clear c3 f3 l3 c4 f4 l4 c5 f5 l5 c7 f7 l7 e0 e3 e4
        have hI4 := hI.drew
        have hL4 := hL3.drew
        have hG4 := hG3.drew
        have hn4 := hn3.trans (nc_drew W2)
        generalize W2.drew = W4 at *
        have hcp := pulled_any s A O' n c co' 0 _ (encAt s bs l (k + 1)) y x.alo W4 ho.out hek.out hyk.out hxk.out hL4.2.2.1 hG4
        obtain ⟨pb, hpb⟩ : ∃ pb, pulledS s (encAt s bs l (k + 1)) y x.alo = pb := ⟨_, rfl⟩
        rw [hpb] at hcp
        go_wp2_with fail
        refine hcp.mono ?_
        rintro e w5 ⟨rfl, hb5⟩
        clear hcp
        replace hI4 := hI4.below hb5
        replace hL4 := hL4.below hb5
        replace hn4 := hn4.trans (nc_of_below hb5)
        obtain ⟨c7, f7, l7⟩ := hI4.2.2.2.2.1.rules
        cases pb with
        | false =>
          go_wp2_with fail
          try gi_wp2_with fail
          refine ⟨hn4, ?_, hL4⟩
          rw [hBB.out, show fstN (pulledN s bs l v) (k + 1) = xp by rw [hsp.out, if_neg (by omega), hpn.out, hpb]; simp; omega]
          exact hI4
        | true =>
          go_wp2_with fail
          try gi_wp2_with fail
          refine ⟨hn4.trans (nc_setCell _ _ _ (by have := hsz.out; dsimp only; omega)), ?_, StepsL.base (hI4.set1 _).2.2.2.2.2 hss hs hd (hL4.1.far (by dsimp only; omega) _) (hL4.2.1.far (by dsimp only; omega) _)⟩
          rw [hBB.out, hsp.out, if_neg (by omega), hpn.out, hpb]
          exact hI4.set1 _
      · obtain ⟨c7, f7, l7⟩ := hI3.2.2.2.2.1.rules
        gi_wp2_with fail
        have hx2n : (xp < 0) = False := eq_false (by omega)
        (refine wpIn_quiet_round (by kernel_rfl) (by kernel_rfl) (by kernel_rfl) ?_ ?_; rotate_left 1; (iterate 18 (go_big_quiet_step (fail))); apply quiet_end; rintro _ ⟨nq, rfl⟩; rotate_left 1; (rintro ⟨_, _, h⟩; exact h))
        clear c7 f7 l7
        try gi_wp2_with fail
        refine ⟨hn3.trans (nc_drewN _ _), ?_, hL3⟩
        rw [hBB.out, hsp.out, if_pos (by omega)]
        exact hI3.drewN _
end Go.Proofs.YtcmbmmpihiekhaaGreat
namespace Go.Proofs.YtcmbmmpihiekhaaGreat
open Go.RowKit Go.Shelf

theorem arr2 : WideMaps.ArrKey Tryz.prog 92 3 2 := ⟨by kernel_rfl, by kernel_rfl, by kernel_rfl, by kernel_rfl⟩
theorem keyed2 : Maps.Keyed Tryz.prog 92 := Maps.Keyed.of_law arr2.law
def kl (i k : Int) : Lit := .string (keyBytes [.int .i64 i, .int .i64 k])
theorem underInt : Tryz.prog.underlying 3 = some (.int .i64) := by kernel_rfl
theorem underBool : Tryz.prog.underlying 4 = some .bool := by kernel_rfl
theorem underMap2 : Tryz.prog.underlying 85 = some (.map 92 4) := by kernel_rfl
def small (i : Int) : Prop := -1000000 ≤ i ∧ i ≤ 1000000
theorem small_wf {i : Int} (h : small i) : (Lit.int .i64 i).wf = true := by
  obtain ⟨h1, h2⟩ := h
  simp only [Lit.wf, IntKind.min, IntKind.max, IntKind.signed, IntKind.bits, Bool.and_eq_true, decide_eq_true_eq, if_true]
  omega
theorem types_pos : ∃ m, Tryz.prog.types.size = m + 1 := ⟨Tryz.prog.types.size - 1, by
  have h : (0 < Tryz.prog.types.size) = True := eq_true (of_decide_eq_true (by kernel_rfl))
  have := of_eq_true h
  omega⟩
theorem keyOf_kl {i k : Int} (hi : small i) (hk : small k) : keyOf Tryz.prog 92 (.agg #[.int .i64 i, .int .i64 k]) = some (kl i k) :=
  WideMaps.keyOf_pair arr2 underInt types_pos (small_wf hi) (small_wf hk)
theorem kl_inj {i k i' k' : Int} (hi : small i) (hk : small k) (hi' : small i') (hk' : small k') (h : kl i k = kl i' k') : i = i' ∧ k = k' := by
  have := keyed2.inj (keyOf_kl hi hk) (h ▸ keyOf_kl hi' hk')
  simpa using this
theorem kl_key (i k : Int) : WideAt.IsKeyLit (kl i k) := trivial

/-! The map at block b says f. -/
def KMap (w : World) (b n : Nat) (f : Nat → Nat → Bool) : Prop :=
  ∃ D : DataW Unit, w.ownsMap Tryz.prog 92 (plainElem Tryz.prog 4) b n D ∧ Maps.IsMap D ∧ ∀ i k : Nat, i ≤ 1000000 → k ≤ 1000000 → D.atKey (kl i k) (.lit (.bool false)) = .lit (.bool (f i k))
theorem small_nat {i : Nat} (h : i ≤ 1000000) : small (i : Int) := ⟨by omega, by omega⟩

theorem kmap_made (w : World) : KMap (w.alloc (.map #[] 0)) w.heap.size 0 (fun _ _ => false) :=
  ⟨.map [], World.ownsMap_made _ _ _ _, Maps.isMap_empty, fun _ _ _ _ => rfl⟩
theorem KMap.lt {w : World} {b n : Nat} {f : Nat → Nat → Bool} (h : KMap w b n f) : b < w.heap.size := let ⟨_, h, _⟩ := h; h.lt
theorem KMap.block {w w' : World} {b n : Nat} {f : Nat → Nat → Bool} (h : KMap w b n f) (e : w'.heap[b]? = w.heap[b]?) : KMap w' b n f := by
  obtain ⟨D, ⟨es, clock, hb, r⟩, h2⟩ := h
  exact ⟨D, ⟨es, clock, e.trans hb, r⟩, h2⟩
theorem KMap.below {w w' : World} {b n : Nat} {f : Nat → Nat → Bool} (h : KMap w b n f) (hb : Below w.heap.size w w') : KMap w' b n f := h.block (hb.block b h.lt)
theorem KMap.look {w : World} {b n : Nat} {f : Nat → Nat → Bool} (h : KMap w b n f) {i k : Nat} (hi : i ≤ 1000000) (hk : k ≤ 1000000) :
    (Instr.lookup 85 (.map (some b)) (.agg #[.int .i64 i, .int .i64 k]) false).run Tryz.prog w = .ok (.bool (f i k)) w := by
  obtain ⟨D, ho, hm, hat⟩ := h
  obtain ⟨v, ps, hrun, hR⟩ := ho.lookup keyed2 underMap2 (z := .bool false) (by kernel_rfl) (plainElem_bool underBool false) (keyOf_kl (small_nat hi) (small_nat hk))
  rw [hat i k hi hk] at hR
  rw [hrun]
  unfold plainElem at hR
  rw [underBool] at hR
  cases v <;> simp at hR
  simp [hR]
theorem KMap.put {w w0' : World} {b n : Nat} {f : Nat → Nat → Bool} {i k : Nat} {x : Bool} (h : KMap w b n f) (hi : i ≤ 1000000) (hk : k ≤ 1000000) :
    ∃ D : DataW Unit, w.ownsMap Tryz.prog 92 (plainElem Tryz.prog 4) b n D ∧ ∀ w', w'.ownsMap Tryz.prog 92 (plainElem Tryz.prog 4) b (n + 1) (D.put (kl i k) (.lit (.bool x))) → KMap w' b (n + 1) (fun i' k' => if i' = i ∧ k' = k then x else f i' k') := by
  obtain ⟨D, ho, hm, hat⟩ := h
  refine ⟨D, ho, fun w' ho' => ⟨_, ho', ?_, fun i' k' hi' hk' => ?_⟩⟩
  · obtain ⟨es, rfl⟩ := hm
    exact ⟨_, rfl⟩
  · by_cases e : i' = i ∧ k' = k
    · obtain ⟨rfl, rfl⟩ := e
      rw [Maps.atKey_put_same hm (kl_key _ _)]
      simp
    · rw [Maps.atKey_put_other (fun h => e (by
        obtain ⟨h1, h2⟩ := kl_inj (small_nat hi') (small_nat hk') (small_nat hi) (small_nat hk) h
        exact ⟨by omega, by omega⟩))]
      simp only [if_neg e]
      exact hat i' k' hi' hk'
end Go.Proofs.YtcmbmmpihiekhaaGreat
namespace Go.Proofs.YtcmbmmpihiekhaaGreat
open Go.RowKit Go.Shelf

def set6 (w : World) (g : Nat) (v0 v1 v2 v3 v4 v5 : Value) : World :=
  (((((w.setCell ⟨g, 0, none⟩ v0).setCell ⟨g, 1, none⟩ v1).setCell ⟨g, 2, none⟩ v2).setCell ⟨g, 3, none⟩ v3).setCell ⟨g, 4, none⟩ v4).setCell ⟨g, 5, none⟩ v5
theorem Blk.set6 {w : World} {g : Nat} {t : TypeId} {a0 a1 a2 a3 a4 a5 : Value} (h : Blk w g t #[a0, a1, a2, a3, a4, a5]) (v0 v1 v2 v3 v4 v5 : Value) : Blk (set6 w g v0 v1 v2 v3 v4 v5) g t #[v0, v1, v2, v3, v4, v5] :=
  (((((h.set_ 0 v0).set_ 1 v1).set_ 2 v2).set_ 3 v3).set_ 4 v4).set_ 5 v5
theorem below_set6 {B : Nat} {w0 w : World} {g : Nat} (h : Below B w0 w) (hg : B ≤ g) (v0 v1 v2 v3 v4 v5 : Value) : Below B w0 (set6 w g v0 v1 v2 v3 v4 v5) :=
  (((((h.setCell (p := ⟨g, 0, none⟩) hg v0).setCell (p := ⟨g, 1, none⟩) hg v1).setCell (p := ⟨g, 2, none⟩) hg v2).setCell (p := ⟨g, 3, none⟩) hg v3).setCell (p := ⟨g, 4, none⟩) hg v4).setCell (p := ⟨g, 5, none⟩) hg v5
def RetTow (s : Strm) (A O : Option Addr) (n c no co : Nat) (eb er : Int) (w : World) (e : Ending) (w' : World) : Prop :=
  (eb = 0 → e = .returned (.tuple #[.agg #[.int .i64 s.head, .slice A n c, .int .i64 s.lane.lo, .int .i64 s.lane.hi, .int .i64 s.bend, .slice O no co], .int .i64 er])) ∧
  (eb ≠ 0 → e = .returned (.tuple #[.agg #[.int .i64 0, .slice none 0 0, .int .i64 0, .int .i64 0, .int .i64 0, .slice none 0 0], .int .i64 er])) ∧ Below w.heap.size w w'
theorem begun_any (s : Strm) (A O D : Option Addr) (n c no co nd cd : Nat) (bs : List Bnd) (l : List Wat) (w : World) (hss : SlAt w 0 5 Sec.cells A n c s.secs) (hs : SlAt w 0 2 Bnd.cells O no co bs) (hd : SlAt w 0 4 Wat.cells D nd cd l) :
    Calls Tryz.prog 19 #[.agg #[.int .i64 s.head, .slice A n c, .int .i64 s.lane.lo, .int .i64 s.lane.hi, .int .i64 s.bend], .slice O no co, .slice D nd cd] w (RetTow s A O n c no co (errB s bs) (errBW s bs l) w) := by
  by_cases h1 : errB s bs = 0
  · have hv : errBW s bs l = chkWats l := by simp [errBW, h1]
    rw [hv]
    clear hv
    replace h1 := Lib.hid h1
    obtain ⟨er, her⟩ : ∃ er, er = chkWats l := ⟨_, rfl⟩
    rw [← her]
    go_enter Tryz.func19, Tryz.ntmps19
    go_wp2_with fail
    refine (checked_any s A O n c no co 0 0 bs _ ((hss.alloc _).alloc _) ((hs.alloc _).alloc _)).mono ?_
    rintro e w1 ⟨r1, -, hb1⟩
    obtain rfl := r1 h1.out
    clear r1
    have k6 := (Blk.new _ _ _).below hb1
    rw [World.size_alloc] at k6
    have b1 := (((Below.refl w.heap.size w).alloc (Nat.le_refl _) _).alloc (by simp) _).trans (hb1.mono (by simp; omega))
    have hd1 : SlAt w1 0 4 Wat.cells D nd cd l := ((hd.alloc _).alloc _).below hb1
    have k8 := Blk.new w1 79 #[.int .i64 s.head, .slice A n c, .int .i64 s.lane.lo, .int .i64 s.lane.hi, .int .i64 s.bend]
    have k6a := k6.alloc (.cells #[.int .i64 s.head, .slice A n c, .int .i64 s.lane.lo, .int .i64 s.lane.hi, .int .i64 s.bend] 79)
    have b1a := b1.alloc b1.size (.cells #[.int .i64 s.head, .slice A n c, .int .i64 s.lane.lo, .int .i64 s.lane.hi, .int .i64 s.bend] 79)
    have hda := hd1.alloc (.cells #[.int .i64 s.head, .slice A n c, .int .i64 s.lane.lo, .int .i64 s.lane.hi, .int .i64 s.bend] 79)
    go_wp2_with fail
    clear k6 b1 hd1 hb1
    generalize w1.alloc (.cells #[.int .i64 s.head, .slice A n c, .int .i64 s.lane.lo, .int .i64 s.lane.hi, .int .i64 s.bend] 79) = wa at *
    obtain ⟨c8, f8, l8⟩ := k8.rules
    have hwat := waters_any D nd cd 0 l _ hda.drew
    rw [← her] at hwat
    clear her hda
    go_region_with (first | (go_at_call 49; refine hwat.mono ?_; rintro e w' ⟨rfl, hbx⟩; replace hbx := below_of_drew hbx; have b2x := b1a.trans (hbx.mono b1a.size); have k6x := k6a.below hbx; replace k8 := k8.below hbx; clear c8 f8 l8; obtain ⟨c8, f8, l8⟩ := k8.rules; obtain ⟨c6, f6, l6⟩ := k6x.rules))
    all_goals
      clear hwat c8 f8 l8 c6 f6 l6
      have k6z := k6x.set6 (.int .i64 s.head) (.slice A n c) (.int .i64 s.lane.lo) (.int .i64 s.lane.hi) (.int .i64 s.bend) (.slice O no co)
      have b2z := below_set6 (g := w.heap.size + 1) b2x (by omega) (.int .i64 s.head) (.slice A n c) (.int .i64 s.lane.lo) (.int .i64 s.lane.hi) (.int .i64 s.bend) (.slice O no co)
      obtain ⟨wz, hwz⟩ : ∃ x, x = set6 w' (w.heap.size + 1) (.int .i64 s.head) (.slice A n c) (.int .i64 s.lane.lo) (.int .i64 s.lane.hi) (.int .i64 s.bend) (.slice O no co) := ⟨_, rfl⟩
      rw [← hwz] at k6z b2z
      simp only [set6] at hwz
      rw [← hwz]
      clear hwz
      go_wp2
      obtain ⟨c6, f6, l6⟩ := k6z.rules
      refine bodyPost_ret (v := .tuple #[.agg #[.int .i64 s.head, .slice A n c, .int .i64 s.lane.lo, .int .i64 s.lane.hi, .int .i64 s.bend, .slice O no co], .int .i64 er]) (by simp [results, Tryz.results19, go_sem, c6]) rfl ⟨fun _ => rfl, fun h => absurd h1.out h, b2z⟩
  · have hv : errBW s bs l = errB s bs := by simp [errBW, h1]
    rw [hv]
    clear hv
    have h1' : (errB s bs != 0) = true := by rw [bne_iff_ne]; exact h1
    go_enter Tryz.func19, Tryz.ntmps19
    go_wp2_with fail
    refine (checked_any s A O n c no co 0 0 bs _ ((hss.alloc _).alloc _) ((hs.alloc _).alloc _)).mono ?_
    rintro e w1 ⟨-, r2, hb1⟩
    obtain rfl := r2 h1
    clear r2
    have k6 := (Blk.new _ _ _).below hb1
    rw [World.size_alloc] at k6
    have b1 := (((Below.refl w.heap.size w).alloc (Nat.le_refl _) _).alloc (by simp) _).trans (hb1.mono (by simp; omega))
    obtain ⟨c6, f6, l6⟩ := k6.rules
    have b2y := below_set6 (g := w.heap.size + 1) b1 (by omega) (.int .i64 0) (.slice none 0 0) (.int .i64 0) (.int .i64 0) (.int .i64 0) (.slice none 0 0)
    have k6z := (k6.set6 (.int .i64 0) (.slice none 0 0) (.int .i64 0) (.int .i64 0) (.int .i64 0) (.slice none 0 0)).alloc (.cells #[.int .i64 0, .slice none 0 0, .int .i64 0, .int .i64 0, .int .i64 0] 79)
    have b2z := b2y.alloc b2y.size (.cells #[.int .i64 0, .slice none 0 0, .int .i64 0, .int .i64 0, .int .i64 0] 79)
    obtain ⟨wz, hwz⟩ : ∃ x, x = (set6 w1 (w.heap.size + 1) (.int .i64 0) (.slice none 0 0) (.int .i64 0) (.int .i64 0) (.int .i64 0) (.slice none 0 0)).alloc (.cells #[.int .i64 0, .slice none 0 0, .int .i64 0, .int .i64 0, .int .i64 0] 79) := ⟨_, rfl⟩
    rw [← hwz] at k6z b2z
    simp only [set6] at hwz
    go_wp2
    rw [← hwz]
    clear c6 f6 l6 hwz b2y
    obtain ⟨c6, f6, l6⟩ := k6z.rules
    refine bodyPost_ret (v := .tuple #[.agg #[.int .i64 0, .slice none 0 0, .int .i64 0, .int .i64 0, .int .i64 0, .slice none 0 0], .int .i64 (errB s bs)]) (by simp [results, Tryz.results19, go_sem, c6]) rfl ⟨fun h => absurd h h1, fun _ => rfl, b2z⟩
/-! watched -/
theorem errBW_zero {s : Strm} {bs : List Bnd} {l : List Wat} (h : errBW s bs l = 0) : errB s bs = 0 ∧ okWats l = true := by
  unfold errBW at h
  split at h
  · rename_i h1
    refine ⟨h1, ?_⟩
    unfold chkWats at h
    split at h
    · assumption
    · omega
  · exact absurd h (by assumption)
theorem watched_any (s : Strm) (A O D V : Option Addr) (n c no co nd cd nv cv : Nat) (bs : List Bnd) (l : List Wat) (v : List Int) (w : World) (hss : SlAt w 0 5 Sec.cells A n c s.secs) (hs : SlAt w 0 2 Bnd.cells O no co bs) (hd : SlAt w 0 4 Wat.cells D nd cd l) (hvv : SlAt w 0 1 ivs V nv cv v) :
    Calls Tryz.prog 28 #[.agg #[.int .i64 s.head, .slice A n c, .int .i64 s.lane.lo, .int .i64 s.lane.hi, .int .i64 s.bend], .slice O no co, .slice D nd cd, .slice V nv cv] w (RetTow s A O n c no co (errB s bs) (errW s bs l v) w) := by
  have hld := hd.len
  have hlv := hvv.len
  by_cases h1 : errBW s bs l = 0
  · obtain ⟨h2, h3⟩ := errBW_zero h1
    have hev : errW s bs l v = if nv = nd ∧ okSpeeds v = true then 0 else 34 := by simp [errW, h1, hld, hlv]
    rw [hev, h2]
    clear hev hld hlv
    replace h1 := Lib.hid h1
    replace h2 := Lib.hid h2
    clear h3
    by_cases h4 : nv = nd
    · subst h4
      obtain ⟨sp, hsp⟩ : ∃ sp, sp = okSpeeds v := ⟨_, rfl⟩
      rw [← hsp]
      cases sp with
      | false =>
        rw [show (if nv = nv ∧ (false : Bool) = true then (0 : Int) else 34) = 34 by simp]
        replace hsp := Lib.hid hsp
        go_enter Tryz.func28, Tryz.ntmps28
        go_wp2_with fail
        refine (begun_any s A O D n c no co nv cd bs l _ ((hss.alloc _).alloc _) ((hs.alloc _).alloc _) ((hd.alloc _).alloc _)).mono ?_
        rintro e w1 ⟨r1, r2, hb1⟩
        have k8 := (Blk.new _ _ _).below hb1
        rw [World.size_alloc] at k8
        have b1 := (((Below.refl w.heap.size w).alloc (Nat.le_refl _) _).alloc (by simp) _).trans (hb1.mono (by simp; omega))
        rw [h1.out] at r1
        obtain rfl := r1 h2.out
        obtain ⟨c8, f8, l8⟩ := k8.rules
        clear r1 r2
        have hv1 := ((hvv.alloc _).alloc _).below hb1
        have b1a := b1.alloc b1.size (.cells #[.int .i64 s.head, .slice A n c, .int .i64 s.lane.lo, .int .i64 s.lane.hi, .int .i64 s.bend, .slice O no co] 81)
        have k10 := Blk.new w1 81 #[.int .i64 s.head, .slice A n c, .int .i64 s.lane.lo, .int .i64 s.lane.hi, .int .i64 s.bend, .slice O no co]
        have k8a := k8.alloc (.cells #[.int .i64 s.head, .slice A n c, .int .i64 s.lane.lo, .int .i64 s.lane.hi, .int .i64 s.bend, .slice O no co] 81)
        have hv2 := hv1.alloc (.cells #[.int .i64 s.head, .slice A n c, .int .i64 s.lane.lo, .int .i64 s.lane.hi, .int .i64 s.bend, .slice O no co] 81)
        go_wp2_with fail
        refine (speeds_any V nv cv 0 v _ hv2).mono ?_
        rw [← hsp.out]
        rintro e w2 ⟨rfl, hb2⟩
        clear c8 f8 l8
        replace b1a := b1a.trans (hb2.mono b1a.size)
        replace k10 := k10.below hb2
        replace k8a := k8a.below hb2
        have b2z := below_set6 (g := w.heap.size + 1) b1a (by omega) (.int .i64 s.head) (.slice A n c) (.int .i64 s.lane.lo) (.int .i64 s.lane.hi) (.int .i64 s.bend) (.slice O no co)
        have k8z := k8a.set6 (.int .i64 s.head) (.slice A n c) (.int .i64 s.lane.lo) (.int .i64 s.lane.hi) (.int .i64 s.bend) (.slice O no co)
        obtain ⟨wz, hwz⟩ : ∃ x, x = (set6 w2 (w.heap.size + 1) (.int .i64 s.head) (.slice A n c) (.int .i64 s.lane.lo) (.int .i64 s.lane.hi) (.int .i64 s.bend) (.slice O no co)) := ⟨_, rfl⟩
        rw [← hwz] at k8z b2z
        simp only [set6] at hwz
        obtain ⟨c8, f8, l8⟩ := k8a.rules
        obtain ⟨c10, f10, l10⟩ := k10.rules
        clear k8 k8a k10 b1 hb1 hb2 hv1 hv2
        go_wp2
        rw [← hwz]
        clear hwz c8 f8 l8 c10 f10 l10
        obtain ⟨c8, f8, l8⟩ := k8z.rules
        refine bodyPost_ret (v := .tuple #[.agg #[.int .i64 s.head, .slice A n c, .int .i64 s.lane.lo, .int .i64 s.lane.hi, .int .i64 s.bend, .slice O no co], .int .i64 34]) (by simp [results, Tryz.results28, go_sem, c8]) rfl ⟨fun _ => rfl, fun h => absurd rfl h, b2z⟩
      | true =>
        rw [show (if nv = nv ∧ (true : Bool) = true then (0 : Int) else 34) = 0 by simp]
        replace hsp := Lib.hid hsp
        go_enter Tryz.func28, Tryz.ntmps28
        go_wp2_with fail
        refine (begun_any s A O D n c no co nv cd bs l _ ((hss.alloc _).alloc _) ((hs.alloc _).alloc _) ((hd.alloc _).alloc _)).mono ?_
        rintro e w1 ⟨r1, r2, hb1⟩
        have k8 := (Blk.new _ _ _).below hb1
        rw [World.size_alloc] at k8
        have b1 := (((Below.refl w.heap.size w).alloc (Nat.le_refl _) _).alloc (by simp) _).trans (hb1.mono (by simp; omega))
        rw [h1.out] at r1
        obtain rfl := r1 h2.out
        obtain ⟨c8, f8, l8⟩ := k8.rules
        clear r1 r2
        have hv1 := ((hvv.alloc _).alloc _).below hb1
        have b1a := b1.alloc b1.size (.cells #[.int .i64 s.head, .slice A n c, .int .i64 s.lane.lo, .int .i64 s.lane.hi, .int .i64 s.bend, .slice O no co] 81)
        have k10 := Blk.new w1 81 #[.int .i64 s.head, .slice A n c, .int .i64 s.lane.lo, .int .i64 s.lane.hi, .int .i64 s.bend, .slice O no co]
        have k8a := k8.alloc (.cells #[.int .i64 s.head, .slice A n c, .int .i64 s.lane.lo, .int .i64 s.lane.hi, .int .i64 s.bend, .slice O no co] 81)
        have hv2 := hv1.alloc (.cells #[.int .i64 s.head, .slice A n c, .int .i64 s.lane.lo, .int .i64 s.lane.hi, .int .i64 s.bend, .slice O no co] 81)
        go_wp2_with fail
        refine (speeds_any V nv cv 0 v _ hv2).mono ?_
        rw [← hsp.out]
        rintro e w2 ⟨rfl, hb2⟩
        clear c8 f8 l8
        replace b1a := b1a.trans (hb2.mono b1a.size)
        replace k10 := k10.below hb2
        replace k8a := k8a.below hb2
        have b2z := below_set6 (g := w.heap.size + 1) b1a (by omega) (.int .i64 s.head) (.slice A n c) (.int .i64 s.lane.lo) (.int .i64 s.lane.hi) (.int .i64 s.bend) (.slice O no co)
        have k8z := k8a.set6 (.int .i64 s.head) (.slice A n c) (.int .i64 s.lane.lo) (.int .i64 s.lane.hi) (.int .i64 s.bend) (.slice O no co)
        obtain ⟨wz, hwz⟩ : ∃ x, x = (set6 w2 (w.heap.size + 1) (.int .i64 s.head) (.slice A n c) (.int .i64 s.lane.lo) (.int .i64 s.lane.hi) (.int .i64 s.bend) (.slice O no co)) := ⟨_, rfl⟩
        rw [← hwz] at k8z b2z
        simp only [set6] at hwz
        obtain ⟨c8, f8, l8⟩ := k8a.rules
        obtain ⟨c10, f10, l10⟩ := k10.rules
        clear k8 k8a k10 b1 hb1 hb2 hv1 hv2
        go_wp2
        rw [← hwz]
        clear hwz c8 f8 l8 c10 f10 l10
        obtain ⟨c8, f8, l8⟩ := k8z.rules
        refine bodyPost_ret (v := .tuple #[.agg #[.int .i64 s.head, .slice A n c, .int .i64 s.lane.lo, .int .i64 s.lane.hi, .int .i64 s.bend, .slice O no co], .int .i64 0]) (by simp [results, Tryz.results28, go_sem, c8]) rfl ⟨fun _ => rfl, fun h => absurd rfl h, b2z⟩
    · rw [if_neg (fun h => h4 h.1)]
      have h4' : ¬ ((nv : Int) = (nd : Int)) := by omega
      go_enter Tryz.func28, Tryz.ntmps28
      go_wp2_with fail
      refine (begun_any s A O D n c no co nd cd bs l _ ((hss.alloc _).alloc _) ((hs.alloc _).alloc _) ((hd.alloc _).alloc _)).mono ?_
      rintro e w1 ⟨r1, r2, hb1⟩
      have k8 := (Blk.new _ _ _).below hb1
      rw [World.size_alloc] at k8
      have b1 := (((Below.refl w.heap.size w).alloc (Nat.le_refl _) _).alloc (by simp) _).trans (hb1.mono (by simp; omega))
      rw [h1.out] at r1
      obtain rfl := r1 h2.out
      have b2y := below_set6 (g := w.heap.size + 1) b1 (by omega) (.int .i64 s.head) (.slice A n c) (.int .i64 s.lane.lo) (.int .i64 s.lane.hi) (.int .i64 s.bend) (.slice O no co)
      have k8z := (k8.set6 (.int .i64 s.head) (.slice A n c) (.int .i64 s.lane.lo) (.int .i64 s.lane.hi) (.int .i64 s.bend) (.slice O no co)).alloc (.cells #[.int .i64 s.head, .slice A n c, .int .i64 s.lane.lo, .int .i64 s.lane.hi, .int .i64 s.bend, .slice O no co] 81)
      have b2z := b2y.alloc b2y.size (.cells #[.int .i64 s.head, .slice A n c, .int .i64 s.lane.lo, .int .i64 s.lane.hi, .int .i64 s.bend, .slice O no co] 81)
      obtain ⟨wz, hwz⟩ : ∃ x, x = (set6 w1 (w.heap.size + 1) (.int .i64 s.head) (.slice A n c) (.int .i64 s.lane.lo) (.int .i64 s.lane.hi) (.int .i64 s.bend) (.slice O no co)).alloc (.cells #[.int .i64 s.head, .slice A n c, .int .i64 s.lane.lo, .int .i64 s.lane.hi, .int .i64 s.bend, .slice O no co] 81) := ⟨_, rfl⟩
      rw [← hwz] at k8z b2z
      simp only [set6] at hwz
      obtain ⟨c8, f8, l8⟩ := k8.rules
      clear k8 b2y r1 r2 b1 hss hs hd hvv hb1
      go_wp2
      rw [← hwz]
      clear hwz c8 f8 l8
      obtain ⟨c8, f8, l8⟩ := k8z.rules
      refine bodyPost_ret (v := .tuple #[.agg #[.int .i64 s.head, .slice A n c, .int .i64 s.lane.lo, .int .i64 s.lane.hi, .int .i64 s.bend, .slice O no co], .int .i64 (34)]) (by simp [results, Tryz.results28, go_sem, c8]) rfl ⟨fun _ => rfl, fun h => absurd rfl h, b2z⟩
  · have hev : errW s bs l v = errBW s bs l := by simp [errW, h1]
    rw [hev]
    clear hev hld hlv
    have h1' : (errBW s bs l != 0) = true := by rw [bne_iff_ne]; exact h1
    obtain ⟨er, her⟩ : ∃ er, er = errBW s bs l := ⟨_, rfl⟩
    by_cases h2 : errB s bs = 0
    · replace h2 := Lib.hid h2
      go_enter Tryz.func28, Tryz.ntmps28
      go_wp2_with fail
      refine (begun_any s A O D n c no co nd cd bs l _ ((hss.alloc _).alloc _) ((hs.alloc _).alloc _) ((hd.alloc _).alloc _)).mono ?_
      rintro e w1 ⟨r1, r2, hb1⟩
      have k8 := (Blk.new _ _ _).below hb1
      rw [World.size_alloc] at k8
      have b1 := (((Below.refl w.heap.size w).alloc (Nat.le_refl _) _).alloc (by simp) _).trans (hb1.mono (by simp; omega))
      obtain rfl := r1 h2.out
      have b2y := below_set6 (g := w.heap.size + 1) b1 (by omega) (.int .i64 s.head) (.slice A n c) (.int .i64 s.lane.lo) (.int .i64 s.lane.hi) (.int .i64 s.bend) (.slice O no co)
      have k8z := (k8.set6 (.int .i64 s.head) (.slice A n c) (.int .i64 s.lane.lo) (.int .i64 s.lane.hi) (.int .i64 s.bend) (.slice O no co)).alloc (.cells #[.int .i64 s.head, .slice A n c, .int .i64 s.lane.lo, .int .i64 s.lane.hi, .int .i64 s.bend, .slice O no co] 81)
      have b2z := b2y.alloc b2y.size (.cells #[.int .i64 s.head, .slice A n c, .int .i64 s.lane.lo, .int .i64 s.lane.hi, .int .i64 s.bend, .slice O no co] 81)
      obtain ⟨wz, hwz⟩ : ∃ x, x = (set6 w1 (w.heap.size + 1) (.int .i64 s.head) (.slice A n c) (.int .i64 s.lane.lo) (.int .i64 s.lane.hi) (.int .i64 s.bend) (.slice O no co)).alloc (.cells #[.int .i64 s.head, .slice A n c, .int .i64 s.lane.lo, .int .i64 s.lane.hi, .int .i64 s.bend, .slice O no co] 81) := ⟨_, rfl⟩
      rw [← hwz] at k8z b2z
      simp only [set6] at hwz
      obtain ⟨c8, f8, l8⟩ := k8.rules
      clear k8 b2y r1 r2 b1 hss hs hd hvv hb1
      go_wp2
      rw [← hwz]
      clear hwz c8 f8 l8
      obtain ⟨c8, f8, l8⟩ := k8z.rules
      refine bodyPost_ret (v := .tuple #[.agg #[.int .i64 s.head, .slice A n c, .int .i64 s.lane.lo, .int .i64 s.lane.hi, .int .i64 s.bend, .slice O no co], .int .i64 (errBW s bs l)]) (by simp [results, Tryz.results28, go_sem, c8]) rfl ⟨fun _ => rfl, fun h => absurd h2.out h, b2z⟩
    · replace h2 := Lib.hid h2
      go_enter Tryz.func28, Tryz.ntmps28
      go_wp2_with fail
      refine (begun_any s A O D n c no co nd cd bs l _ ((hss.alloc _).alloc _) ((hs.alloc _).alloc _) ((hd.alloc _).alloc _)).mono ?_
      rintro e w1 ⟨r1, r2, hb1⟩
      have k8 := (Blk.new _ _ _).below hb1
      rw [World.size_alloc] at k8
      have b1 := (((Below.refl w.heap.size w).alloc (Nat.le_refl _) _).alloc (by simp) _).trans (hb1.mono (by simp; omega))
      obtain rfl := r2 h2.out
      have b2y := below_set6 (g := w.heap.size + 1) b1 (by omega) (.int .i64 0) (.slice none 0 0) (.int .i64 0) (.int .i64 0) (.int .i64 0) (.slice none 0 0)
      have k8z := (k8.set6 (.int .i64 0) (.slice none 0 0) (.int .i64 0) (.int .i64 0) (.int .i64 0) (.slice none 0 0)).alloc (.cells #[.int .i64 0, .slice none 0 0, .int .i64 0, .int .i64 0, .int .i64 0, .slice none 0 0] 81)
      have b2z := b2y.alloc b2y.size (.cells #[.int .i64 0, .slice none 0 0, .int .i64 0, .int .i64 0, .int .i64 0, .slice none 0 0] 81)
      obtain ⟨wz, hwz⟩ : ∃ x, x = (set6 w1 (w.heap.size + 1) (.int .i64 0) (.slice none 0 0) (.int .i64 0) (.int .i64 0) (.int .i64 0) (.slice none 0 0)).alloc (.cells #[.int .i64 0, .slice none 0 0, .int .i64 0, .int .i64 0, .int .i64 0, .slice none 0 0] 81) := ⟨_, rfl⟩
      rw [← hwz] at k8z b2z
      simp only [set6] at hwz
      obtain ⟨c8, f8, l8⟩ := k8.rules
      clear k8 b2y r1 r2 b1 hss hs hd hvv hb1
      go_wp2
      rw [← hwz]
      clear hwz c8 f8 l8
      obtain ⟨c8, f8, l8⟩ := k8z.rules
      refine bodyPost_ret (v := .tuple #[.agg #[.int .i64 0, .slice none 0 0, .int .i64 0, .int .i64 0, .int .i64 0, .slice none 0 0], .int .i64 (errBW s bs l)]) (by simp [results, Tryz.results28, go_sem, c8]) rfl ⟨fun h => absurd h h2.out, fun _ => rfl, b2z⟩
end Go.Proofs.YtcmbmmpihiekhaaGreat
namespace Go.Proofs.YtcmbmmpihiekhaaGreat
open Go.RowKit Go.Shelf

theorem keeps_any (s : Strm) (bs : List Bnd) (l : List Wat) (v : List Int) (A O D V : Option Addr) (n c co nd cd nv cv : Nat) (w : World) (ho : okStrm s = true) (hb0 : okOffs s bs = true) (hl0 : l.all okWat = true) (hv : okSpeeds v = true) (hvl : v.length = l.length)
    (hss : SlAt w 0 5 Sec.cells A n c s.secs) (hs : SlAt w 0 2 Bnd.cells O n co bs) (hd : SlAt w 0 4 Wat.cells D nd cd l) (hvv : SlAt w 0 1 ivs V nv cv v) :
    Calls Tryz.prog 29 #[.agg #[.int .i64 s.head, .slice A n c, .int .i64 s.lane.lo, .int .i64 s.lane.hi, .int .i64 s.bend, .slice O n co], .slice D nd cd, .slice V nv cv] w fun e w' =>
      e = .returned (.bool (keepsS s bs l v)) ∧ Below w.heap.size w w' := by
  have hk : keepsS s bs l v = decide ((strainS s bs l v nd).1 = -1 ∧ (strainS s bs l v nd).2 = -1) := by
    unfold keepsS; rw [hd.len]; congr 1; rw [Prod.ext_iff]
  rw [hk]
  clear hk
  have h := fun w' hb => strain_any s bs l v A O D V n c co nd cd nv cv w' ho hb0 hl0 hv hvl (hss.below (w' := w') hb) (hs.below hb) (hd.below hb) (hvv.below hb)
  generalize strainS s bs l v nd = p at *
  obtain ⟨p1, p2⟩ := p
  dsimp only at *
  replace h := Lib.hid h
  clear hss hs hd hvv ho hb0 hl0 hv hvl
  obtain ⟨b, hb⟩ : ∃ b, b = decide (p1 = -1 ∧ p2 = -1) := ⟨_, rfl⟩
  rw [← hb]
  replace hb := Lib.hid hb
  go_enter Tryz.func29, Tryz.ntmps29
  go_wp2_with fail
  refine (h.out _ ((Below.refl _ _).alloc (Nat.le_refl _) _)).mono ?_
  rintro e w1 ⟨rfl, hb1⟩
  have b1 := ((Below.refl w.heap.size w).alloc (Nat.le_refl _) _).trans (hb1.mono (by simp))
  go_wp2
  all_goals
    go_ret
    exact ⟨ret_bool (by rw [hb.out]; simp [*]), b1⟩

theorem errW_zero {s : Strm} {bs : List Bnd} {l : List Wat} {v : List Int} (h : errW s bs l v = 0) : okStrm s = true ∧ okOffs s bs = true ∧ l.all okWat = true ∧ okSpeeds v = true ∧ v.length = l.length ∧ errB s bs = 0 := by
  unfold errW at h
  split at h
  · rename_i h1
    obtain ⟨h2, h3⟩ := errBW_zero h1
    obtain ⟨h4, h5⟩ := errB_zero h2
    unfold okWats at h3
    simp only [Bool.and_eq_true, decide_eq_true_eq] at h3
    split at h
    · rename_i h6
      exact ⟨h4, h5, h3.2, h6.2, h6.1, h2⟩
    · omega
  · exact absurd h (by assumption)
theorem Keeps_any (s : Strm) (A O D V : Option Addr) (n c no co nd cd nv cv : Nat) (bs : List Bnd) (l : List Wat) (v : List Int) (w : World) (hss : SlAt w 0 5 Sec.cells A n c s.secs) (hs : SlAt w 0 2 Bnd.cells O no co bs) (hd : SlAt w 0 4 Wat.cells D nd cd l) (hvv : SlAt w 0 1 ivs V nv cv v) :
    Calls Tryz.prog 9 #[.agg #[.int .i64 s.head, .slice A n c, .int .i64 s.lane.lo, .int .i64 s.lane.hi, .int .i64 s.bend], .slice O no co, .slice D nd cd, .slice V nv cv] w fun e w' =>
      e = .returned (.tuple #[.bool (keepsR s bs l v).1, .int .i64 (keepsR s bs l v).2]) ∧ Below w.heap.size w w' := by
  by_cases h1 : errW s bs l v = 0
  · obtain ⟨o1, o2, o3, o4, o5, o6⟩ := errW_zero h1
    have hv : keepsR s bs l v = (keepsS s bs l v, 0) := by simp [keepsR, h1]
    rw [hv]
    have hno : no = n := by have := okOffs_len o2; have := hs.len; have := hss.len; omega
    subst hno
    replace h1 := Lib.hid h1
    replace o6 := Lib.hid o6
    have hst := fun w' hb => keeps_any s bs l v A O D V no c co nd cd nv cv w' o1 o2 o3 o4 o5 (hss.below (w' := w') hb) (hs.below hb) (hd.below hb) (hvv.below hb)
    clear hv
    dsimp only
    generalize keepsS s bs l v = p at *
    replace hst := Lib.hid hst
    clear o1 o2 o3 o4 o5
    go_enter Tryz.func9, Tryz.ntmps9
    go_wp2_with fail
    refine (watched_any s A O D V no c no co nd cd nv cv bs l v _ (hss.alloc _) (hs.alloc _) (hd.alloc _) (hvv.alloc _)).mono ?_
    rintro e w1 ⟨r1, r2, hb1⟩
    rw [h1.out] at r1
    obtain rfl := r1 o6.out
    clear r1 r2
    have b1 := ((Below.refl w.heap.size w).alloc (Nat.le_refl _) _).trans (hb1.mono (by simp))
    have b1a := b1.alloc b1.size (.cells #[.int .i64 s.head, .slice A no c, .int .i64 s.lane.lo, .int .i64 s.lane.hi, .int .i64 s.bend, .slice O no co] 81)
    go_wp2_with fail
    refine (hst.out _ b1a).mono ?_
    rintro e w2 ⟨rfl, hb2⟩
    replace b1a := b1a.trans (hb2.mono b1a.size)
    go_wp2
    go_ret2
    exact ⟨rfl, b1a⟩
  · have hv : keepsR s bs l v = (false, errW s bs l v) := by simp [keepsR, h1]
    rw [hv]
    dsimp only
    have h1' : (errW s bs l v != 0) = true := by rw [bne_iff_ne]; exact h1
    replace h1 := Lib.hid h1
    clear hv
    by_cases h2 : errB s bs = 0
    · replace h2 := Lib.hid h2
      go_enter Tryz.func9, Tryz.ntmps9
      go_wp2_with fail
      refine (watched_any s A O D V n c no co nd cd nv cv bs l v _ (hss.alloc _) (hs.alloc _) (hd.alloc _) (hvv.alloc _)).mono ?_
      rintro e w1 ⟨r1, r2, hb1⟩
      obtain rfl := r1 h2.out
      clear r1 r2
      have b1 := ((Below.refl w.heap.size w).alloc (Nat.le_refl _) _).trans (hb1.mono (by simp))
      go_wp2
      go_ret2
      exact ⟨rfl, b1.alloc b1.size _⟩
    · replace h2 := Lib.hid h2
      go_enter Tryz.func9, Tryz.ntmps9
      go_wp2_with fail
      refine (watched_any s A O D V n c no co nd cd nv cv bs l v _ (hss.alloc _) (hs.alloc _) (hd.alloc _) (hvv.alloc _)).mono ?_
      rintro e w1 ⟨r1, r2, hb1⟩
      obtain rfl := r2 h2.out
      clear r1 r2
      have b1 := ((Below.refl w.heap.size w).alloc (Nat.le_refl _) _).trans (hb1.mono (by simp))
      go_wp2
      go_ret2
      exact ⟨rfl, b1.alloc b1.size _⟩
end Go.Proofs.YtcmbmmpihiekhaaGreat
namespace Go.Proofs.YtcmbmmpihiekhaaGreat
open Go.RowKit Go.Shelf

/-! What is kept in a step with a choice; the best choice of a step; the plan. -/
def keptN (s : Strm) (bs : List Bnd) (l : List Wat) (ch : List Int) (i k : Nat) : Bool := !bentN s bs l i && !pulledS s (encAt s bs l (i + 1)) (ch.getD k 0) (l.getD i wat0).alo
def pickTo (f : Nat → Bool) (ch : List Int) : Nat → Int
  | 0 => -1
  | k + 1 => if f k = true then (if pickTo f ch k < 0 then (k : Int) else if ch.getD (pickTo f ch k).toNat 0 < ch.getD k 0 then (k : Int) else pickTo f ch k) else pickTo f ch k
def runPlan (p : Nat → Int) (ch : List Int) (nd : Nat) : Nat → List Int → Int → Bool × List Int × Int
  | 0, plan, way => (true, plan, way)
  | r + 1, plan, way => if p (nd - (r + 1)) < 0 then (false, plan, way) else runPlan p ch nd r (plan ++ [p (nd - (r + 1))]) (way + ch.getD (p (nd - (r + 1))).toNat 0)
def fastR (s : Strm) (bs : List Bnd) (l : List Wat) (ch : List Int) : List Int × Int × Int :=
  if errBW s bs l ≠ 0 then ([], 0, errBW s bs l)
  else if ¬ (1 ≤ l.length ∧ l.length ≤ 6 ∧ 1 ≤ ch.length ∧ ch.length ≤ 4) then ([], 0, 3)
  else if okSpeeds ch = false then ([], 0, 34)
  else
    let r := runPlan (fun i => pickTo (keptN s bs l ch i) ch ch.length) ch l.length l.length [] 0
    if r.1 = true then (r.2.1, r.2.2, 0) else ([], 0, 4)

theorem pickTo_step (f : Nat → Bool) (ch : List Int) (k : Nat) : pickTo f ch (k + 1) = if f k = true then (if pickTo f ch k < 0 then (k : Int) else if ch.getD (pickTo f ch k).toNat 0 < ch.getD k 0 then (k : Int) else pickTo f ch k) else pickTo f ch k := rfl
theorem pickTo_bd (f : Nat → Bool) (ch : List Int) : ∀ k, -1 ≤ pickTo f ch k ∧ pickTo f ch k < k
  | 0 => by simp [pickTo]
  | k + 1 => by
    have := pickTo_bd f ch k
    rw [pickTo_step]
    repeat' split
    all_goals omega

theorem choose_any (w0 : World) (B : Nat) (hw0B : w0.heap.size = B) (ch : List Int) (fk : Nat → Nat → Bool) (D C : Option Addr) (nd cd nc cc bm nm g1 g2 g3 g4 g5 g6 : Nat) (hB : B ≤ g1 ∧ B ≤ g2 ∧ B ≤ g3 ∧ B ≤ g4 ∧ B ≤ g5 ∧ B ≤ g6 ∧ B ≤ bm) (hg45 : g4 ≠ g5)
    (hn : nd ≤ 6) (hc : nc ≤ 4) (hch : okSpeeds ch = true) (hs0 : SlAt w0 0 1 ivs C nc cc ch) (hg24 : g2 ≠ g4) (hdis : g1 ≠ g4 ∧ g1 ≠ g5 ∧ g2 ≠ g5 ∧ g3 ≠ g4 ∧ g3 ≠ g5 ∧ g6 ≠ g4 ∧ g6 ≠ g5 ∧ bm ≠ g4 ∧ bm ≠ g5) : ∀ (r i : Nat) (v : Value) (plan : List Int) (way : Int) (w : World), i + r = nd → plan.length = i → 0 ≤ way → way ≤ 100 * i → (∀ g, g ∈ [g1, g2, g3, g4, g5, g6, bm] → some g ≠ v.ownBlock) →
    Blk w g1 32 #[.slice D nd cd] → Blk w g2 33 #[.slice C nc cc] → Blk w g3 85 #[.map (some bm)] → Blk w g4 33 #[v] → Blk w g5 3 #[.int .i64 way] →
    Blk w g6 93 #[.func (.func 25) #[] #[.pointer (some ⟨g1, 0, none⟩), .pointer (some ⟨g2, 0, none⟩), .pointer (some ⟨g3, 0, none⟩), .pointer (some ⟨g4, 0, none⟩), .pointer (some ⟨g5, 0, none⟩), .pointer (some ⟨g6, 0, none⟩)]] →
    Below B w0 w → KMap w bm nm fk → w.ownsRow B 3 1 v i (plan.map (.int .i64 ·)) →
    Calls Tryz.prog 25 #[.int .i64 i, .pointer (some ⟨g1, 0, none⟩), .pointer (some ⟨g2, 0, none⟩), .pointer (some ⟨g3, 0, none⟩), .pointer (some ⟨g4, 0, none⟩), .pointer (some ⟨g5, 0, none⟩), .pointer (some ⟨g6, 0, none⟩)] w fun e w' =>
      ∃ v', e = .returned (.bool (runPlan (fun i => pickTo (fk i) ch ch.length) ch nd r plan way).1) ∧ Below B w w' ∧ Blk w' g4 33 #[v'] ∧ (∃ n', w'.ownsRow B 3 1 v' n' ((runPlan (fun i => pickTo (fk i) ch ch.length) ch nd r plan way).2.1.map (.int .i64 ·))) ∧
        Blk w' g5 3 #[.int .i64 (runPlan (fun i => pickTo (fk i) ch ch.length) ch nd r plan way).2.2] ∧
        ∀ x, x < w.heap.size → x ≠ g4 → x ≠ g5 → some x ≠ v.ownBlock → w'.heap[x]? = w.heap[x]? := by
  intro r
  induction r with
  | zero =>
    intro i v plan way w hir hpl hw0 hw1 hvne k1 k2 k3 k4 k5 k6 hbb hm hown
    obtain rfl : i = nd := by omega
    obtain ⟨c1, f1, l1⟩ := k1.rules
    go_enter Tryz.func25, Tryz.ntmps25
    go_wp2
    go_step3
    go_wp2
    rw [Exit.noGoto_ret]
    go_ret
    exact ⟨v, rfl, Below.refl _ _, k4, ⟨_, hown⟩, k5, fun _ _ _ _ _ => rfl⟩
  | succ r ih =>
    intro i v plan way w hir hpl hw0 hw1 hvne k1 k2 k3 k4 k5 k6 hbb hm hown
    have hlt : i < nd := by omega
    obtain ⟨c1, f1, l1⟩ := k1.rules
    obtain ⟨c2, f2, l2⟩ := k2.rules
    have hs : SlAt w 0 1 ivs C nc cc ch := hs0.keep hbb.size (fun p _ hp => hbb.cell (by omega))
    have hcl := hs.len
    have hne : ¬ ((i : Int) = (nd : Int)) := by omega
    have hrun : Hid (runPlan (fun i => pickTo (fk i) ch ch.length) ch nd (r + 1) plan way = if pickTo (fk i) ch nc < 0 then (false, plan, way) else runPlan (fun i => pickTo (fk i) ch ch.length) ch nd r (plan ++ [pickTo (fk i) ch nc]) (way + ch.getD (pickTo (fk i) ch nc).toNat 0)) := by
      show _ = _
      rw [runPlan, show nd - (r + 1) = i by omega, hcl]
    replace ih := Lib.hid ih
    replace hch := Lib.hid hch
    go_enter Tryz.func25, Tryz.ntmps25
    go_wp2
    go_step3
    go_wp2
    go_step3
    go_wp2
    clear c1 f1 l1 c2 f2 l2
    go_loopw [9, 18] (fun b j wr => ∃ k : Nat, j = .int .i64 k ∧ k ≤ nc ∧ b = .int .i64 (pickTo (fk i) ch k) ∧ wr = w) (fun b j wr => nc - (intOf j).toNat)
    case atStart => exact ⟨0, rfl, Nat.zero_le _, rfl, rfl⟩
    case round =>
      obtain ⟨k, rfl, hk, rfl, rfl⟩ := hrel
      have hpb := pickTo_bd (fk i) ch k
      by_cases hkn : k < nc
      · have hstep := Lib.hid (pickTo_step (fk i) ch k)
        obtain ⟨x, hx⟩ := some_of_lt hcl hkn
        have hxd : ch.getD k 0 = x := by rw [List.getD_eq_getElem?_getD, hx]; rfl
        obtain ⟨b1, o1, hA1, -, -, e0⟩ := hs.int hx
        have hlk := hm.look (i := i) (k := k) (by omega) (by omega)
        have hk0 : (0 : Int) ≤ (k : Int) := by omega
        have hk1 : (k : Int) < (nc : Int) := by omega
        obtain ⟨c3, f3, l3⟩ := k3.rules
        obtain ⟨c2, f2, l2⟩ := k2.rules
        rw [hxd] at hstep
        replace hx := Lib.hid hx
        clear hxd
        obtain ⟨fb, hfb⟩ : ∃ fb, fb = fk i k := ⟨_, rfl⟩
        rw [← hfb] at hlk hstep
        clear hfb
        by_cases hp0 : pickTo (fk i) ch k < 0
        · generalize pickTo (fk i) ch k = pk at *
          subst hA1
          cases fb
          · go_wp2
            exact ⟨⟨k + 1, by go_num, by omega, by rw [hstep.out]; simp, trivial⟩, by simp [intOf]; omega⟩
          · go_wp2
            exact ⟨⟨k + 1, by go_num, by omega, by rw [hstep.out]; simp [hp0], trivial⟩, by simp [intOf]; omega⟩
        · have hpn : (pickTo (fk i) ch k).toNat < nc := by omega
          obtain ⟨y, hy⟩ := some_of_lt hcl hpn
          have hyd : ch.getD (pickTo (fk i) ch k).toNat 0 = y := by rw [List.getD_eq_getElem?_getD, hy]; rfl
          obtain ⟨b2, o2, hA2, -, -, e1⟩ := hs.int hy
          rw [hyd] at hstep
          subst hA1
          cases hA2
          replace hy := Lib.hid hy
          clear hyd
          obtain ⟨pn, hpk⟩ : ∃ pn : Nat, pickTo (fk i) ch k = (pn : Int) := ⟨(pickTo (fk i) ch k).toNat, by omega⟩
          rw [hpk] at hpn e1 hstep hpb ⊢
          rw [Int.toNat_natCast] at hpn e1
          have hp1 : (0 : Int) ≤ (pn : Int) := by omega
          have hp2 : (pn : Int) < (nc : Int) := by omega
          have hp3 : ¬ ((pn : Int) < 0) := by omega
          clear hp0 hy
          cases fb
          · go_wp2
            exact ⟨⟨k + 1, by go_num, by omega, by rw [hstep.out]; simp, trivial⟩, by simp [intOf]; omega⟩
          · by_cases hxy : y < x
            · go_wp2
              exact ⟨⟨k + 1, by go_num, by omega, by rw [hstep.out]; simp [hxy, hp3], trivial⟩, by simp [intOf]; omega⟩
            · go_wp2
              exact ⟨⟨k + 1, by go_num, by omega, by rw [hstep.out]; simp [hxy, hp3], trivial⟩, by simp [intOf]; omega⟩
      · obtain rfl : k = nc := by omega
        obtain ⟨pk, hpk⟩ : ∃ pk, pk = pickTo (fk i) ch k := ⟨_, rfl⟩
        rw [← hpk] at hrun hpb ⊢
        by_cases hp : pk < 0
        · rw [if_pos hp] at hrun
          go_wp2
          rw [Exit.noGoto_ret]
          go_ret
          rw [hrun.out]
          exact ⟨v, rfl, Below.refl _ _, k4, ⟨_, hown⟩, k5, fun _ _ _ _ _ => rfl⟩
        · rw [if_neg hp] at hrun
          obtain ⟨c4, f4, l4⟩ := k4.rules
          obtain ⟨c5, f5, l5⟩ := k5.rules
          obtain ⟨c2, f2, l2⟩ := k2.rules
          obtain ⟨pn, hpn⟩ : ∃ pn : Nat, pk = (pn : Int) := ⟨pk.toNat, by omega⟩
          subst hpn
          have hpl2 : pn < k := by omega
          obtain ⟨y, hy⟩ := some_of_lt hcl hpl2
          have hyd : ch.getD pn 0 = y := by rw [List.getD_eq_getElem?_getD, hy]; rfl
          obtain ⟨b2, o2, hA2, -, hb2B, e1⟩ := hs0.int hy
          replace e1 := (hbb.cell (by dsimp only; omega)).trans e1
          have hyk := List.all_eq_true.1 hch.out y (List.mem_of_getElem? hy)
          simp only [okSpeed, decide_eq_true_eq] at hyk
          subst hA2
          have hp1 : (0 : Int) ≤ (pn : Int) := by omega
          have hp2 : (pn : Int) < (k : Int) := by omega
          have hp3 : ¬ ((pn : Int) < 0) := by omega
          have t1 := IntWalk.i64_in (way + y) (by omega)
          rw [Int.toNat_natCast, hyd] at hrun
          replace hy := Lib.hid hy
          clear hyd hpk
          go_wp2
          have hb2B' : b2 < B := by omega
          refine wp_region_till (fun w' => (∀ j, w'.cell? ⟨g5, j, none⟩ = #[Value.int .i64 way][j]?) ∧ (∀ j, w'.cell? ⟨g2, j, none⟩ = #[Value.slice (some ⟨b2, o2, none⟩) k cc][j]?) ∧ w'.cell? ⟨b2, o2 + pn, none⟩ = some (.int .i64 y)) 11 (by kernel_rfl) ?_
          have hS : (fun w' : World => (∀ j, w'.cell? ⟨g5, j, none⟩ = #[Value.int .i64 way][j]?) ∧ (∀ j, w'.cell? ⟨g2, j, none⟩ = #[Value.slice (some ⟨b2, o2, none⟩) k cc][j]?) ∧ w'.cell? ⟨b2, o2 + pn, none⟩ = some (.int .i64 y)) wr.drew := ⟨c5, c2, e1⟩
          refine till_take (i := 1) (v := ?_) rfl (by kernel_rfl) (by kernel_rfl) (by kernel_rfl) (by kernel_rfl) (by kernel_rfl) (by kernel_rfl) (fun _ _ _ h => h) (Or.inl ⟨by rfl, ?_⟩) hS ?_
          rotate_left 1
          · intro w' hSw
            try dsimp only at hSw
            obtain ⟨q2, q3, q4⟩ := hSw
            go_simp
            all_goals with_reducible rfl
          try simp only [Act.put, sA, sZ, sS]
          refine till_take (i := 4) (v := ?_) rfl (by kernel_rfl) (by kernel_rfl) (by kernel_rfl) (by kernel_rfl) (by kernel_rfl) (by kernel_rfl) (fun _ _ _ h => h) (Or.inl ⟨by rfl, ?_⟩) hS ?_
          rotate_left 1
          · intro w' hSw
            try dsimp only at hSw
            obtain ⟨q2, q3, q4⟩ := hSw
            go_simp
            all_goals with_reducible rfl
          try simp only [Act.put, sA, sZ, sS]
          refine till_take (i := 5) (v := ?_) rfl (by kernel_rfl) (by kernel_rfl) (by kernel_rfl) (by kernel_rfl) (by kernel_rfl) (by kernel_rfl) (fun _ _ _ h => h) (Or.inl ⟨by rfl, ?_⟩) hS ?_
          rotate_left 1
          · intro w' hSw
            try dsimp only at hSw
            obtain ⟨q2, q3, q4⟩ := hSw
            go_simp
            all_goals with_reducible rfl
          try simp only [Act.put, sA, sZ, sS]
          refine till_take (i := 6) (v := ?_) rfl (by kernel_rfl) (by kernel_rfl) (by kernel_rfl) (by kernel_rfl) (by kernel_rfl) (by kernel_rfl) (fun _ _ _ h => h) (Or.inl ⟨by rfl, ?_⟩) hS ?_
          rotate_left 1
          · intro w' hSw
            try dsimp only at hSw
            obtain ⟨q2, q3, q4⟩ := hSw
            go_simp
            all_goals with_reducible rfl
          try simp only [Act.put, sA, sZ, sS]
          refine till_take (i := 7) (v := ?_) rfl (by kernel_rfl) (by kernel_rfl) (by kernel_rfl) (by kernel_rfl) (by kernel_rfl) (by kernel_rfl) (fun _ _ _ h => h) (Or.inl ⟨by rfl, ?_⟩) hS ?_
          rotate_left 1
          · intro w' hSw
            try dsimp only at hSw
            obtain ⟨q2, q3, q4⟩ := hSw
            go_simp
            all_goals with_reducible rfl
          try simp only [Act.put, sA, sZ, sS]
          refine till_take (i := 8) (v := ?_) rfl (by kernel_rfl) (by kernel_rfl) (by kernel_rfl) (by kernel_rfl) (by kernel_rfl) (by kernel_rfl) (fun _ _ _ h => h) (Or.inl ⟨by rfl, ?_⟩) hS ?_
          rotate_left 1
          · intro w' hSw
            try dsimp only at hSw
            obtain ⟨q2, q3, q4⟩ := hSw
            go_simp
            all_goals with_reducible rfl
          try simp only [Act.put, sA, sZ, sS]
          refine till_take (i := 9) (v := ?_) rfl (by kernel_rfl) (by kernel_rfl) (by kernel_rfl) (by kernel_rfl) (by kernel_rfl) (by kernel_rfl) (fun _ _ _ h => h) (Or.inl ⟨by rfl, ?_⟩) hS ?_
          rotate_left 1
          · intro w' hSw
            try dsimp only at hSw
            obtain ⟨q2, q3, q4⟩ := hSw
            go_simp
            all_goals with_reducible rfl
          try simp only [Act.put, sA, sZ, sS]
          obtain ⟨i0, hi0, hz0, hz1, hz2⟩ := info_parts Tryz.infoInt
          have hSa : (fun w' : World => (∀ j, w'.cell? ⟨g5, j, none⟩ = #[Value.int .i64 way][j]?) ∧ (∀ j, w'.cell? ⟨g2, j, none⟩ = #[Value.slice (some ⟨b2, o2, none⟩) k cc][j]?) ∧ w'.cell? ⟨b2, o2 + pn, none⟩ = some (.int .i64 y)) (wr.drew.alloc (.cells #[.int .i64 pn] 3)) :=
            ⟨fun j => (World.cell?_alloc_lt _ _ _ l5).trans (c5 j), fun j => (World.cell?_alloc_lt _ _ _ l2).trans (c2 j), (World.cell?_alloc_lt _ _ _ (World.block_lt_of_cell? _ _ e1)).trans e1⟩
          have k1a := k1.drew.alloc (.cells #[.int .i64 pn] 3)
          have k2a := k2.drew.alloc (.cells #[.int .i64 pn] 3)
          have k3a := k3.drew.alloc (.cells #[.int .i64 pn] 3)
          have k4a := k4.drew.alloc (.cells #[.int .i64 pn] 3)
          have k5a := k5.drew.alloc (.cells #[.int .i64 pn] 3)
          have k6a := k6.drew.alloc (.cells #[.int .i64 pn] 3)
          have hownA : (wr.drew.alloc (.cells #[.int .i64 pn] 3)).ownsRow B 3 1 v i (plan.map (.int .i64 ·)) := World.ownsRow.alloc (w := wr.drew) hown _
          have hnews := World.news_of_block (World.alloc_heap_new wr.drew (.cells #[.int .i64 pn] 3))
          have hbig1 : Hid (i + 1 ≤ maxLen) := by show i + 1 ≤ maxLen; unfold maxLen; omega
          have hbig2 : Hid ((i + 1) * 8 ≤ 140737488355328) := by show (i + 1) * 8 ≤ 140737488355328; omega
          have hb2v : some b2 ≠ v.ownBlock := by
            rcases hown.2 with ⟨hv0, _⟩ | ⟨gg, cap, cur, hv, hg, _⟩
            · rw [hv0]; simp [Value.ownBlock]
            · rw [hv]; simp [Value.ownBlock]; omega
          have hb2w : b2 < wr.heap.size := World.block_lt_of_cell? _ _ e1
          have hbase : B ≤ (wr.drew.alloc (.cells #[.int .i64 pn] 3)).heap.size := by have := hbb.size; simp; omega
          refine till_two (i := 0) (j := 2) (by kernel_rfl) rfl rfl rfl rfl (fun K hK => ?_) (fun K hK => ?_)
          · go_simp
            refine hK _ _ (fun _ => hS) ?_
            clear hK K
            refine till_one (i := 2) (by kernel_rfl) rfl rfl (fun K hK => ?_)
            go_simp
            refine hK _ _ (fun _ => hSa) ?_
            clear hK K
            refine till_one (i := 3) (by kernel_rfl) rfl rfl (fun K hK => ?_)
            refine wp_append_lies _ _ _ 33 (by rfl) B 3 i0 (.int .i64 0) 1 8 Tryz.underlying33 hi0 hz0 hz1 hz2 rfl (by omega) v i (plan.map (.int .i64 ·)) (by rfl) hownA ⟨wr.heap.size, 0, none⟩ 1 1 [.int .i64 pn] (by rfl) rfl hnews (by simp [Value.oneCell']) (by omega) hbig1.out hbig2.out hbase (wr.heap.size + 1) (by simp) ?_
            intro g cap w2 hown2 hgrow hlies hlt2
            have k2g := k2a.grown hgrow (hvne g2 (by simp))
            have k4g := k4a.grown hgrow (hvne g4 (by simp))
            have k5g := k5a.grown hgrow (hvne g5 (by simp))
            have k1g := k1a.grown hgrow (hvne g1 (by simp))
            have k3g := k3a.grown hgrow (hvne g3 (by simp))
            have k6g := k6a.grown hgrow (hvne g6 (by simp))
            have e1g := (World.grownBy.cell_far hgrow ⟨b2, o2 + pn, none⟩ (by simp; omega) hb2v).trans hSa.2.2
            have hmg : KMap w2 bm nm fk := hm.block ((hgrow.block bm (by have := hm.lt; simp; omega) (hvne bm (by simp))).trans (Below.heap_alloc wr.drew _ bm hm.lt))
            refine hK _ _ (fun _ => ⟨k5g.cell, k2g.cell, e1g⟩) ?_
            clear hK K
            try simp only [Act.put, sA, sZ, sS]
            refine till_one (i := 10) (by kernel_rfl) rfl rfl (fun K hK => ?_)
            obtain ⟨x4, y4, z4⟩ := k4g.rules
            go_simp
            have k5h := k5g.far (p := ⟨g4, 0, none⟩) (by dsimp only; omega) (.slice (some ⟨g, 0, none⟩) (i + 1) cap)
            have k2h := k2g.far (p := ⟨g4, 0, none⟩) (by dsimp only; omega) (.slice (some ⟨g, 0, none⟩) (i + 1) cap)
            have e1h := (World.cell?_setCell_far w2 ⟨g4, 0, none⟩ ⟨b2, o2 + pn, none⟩ (.slice (some ⟨g, 0, none⟩) (i + 1) cap) (by dsimp only; omega)).trans e1g
            refine hK _ _ (fun _ => ⟨k5h.cell, k2h.cell, e1h⟩) ?_
            clear hK K x4 y4 z4
            try simp only [Act.put, sA, sZ, sS]
            refine till_one (i := 11) (by kernel_rfl) rfl rfl (fun K hK => ?_)
            obtain ⟨x5, y5, z5⟩ := k5h.rules
            go_simp
            refine hK _ _ (fun h => nomatch (show true = false from h)) ?_
            clear hK K x5 y5 z5
            refine till_done (by kernel_rfl) ?_ _
            obtain ⟨hd1, hd2, hd3, hd4, hd5, hd6, hd7, hd8, hd9⟩ := hdis
            have hgne : ∀ x, x ∈ [g1, g2, g3, g4, g5, g6, bm] → x < wr.heap.size → g ≠ x := fun x hx hlt => by
              rcases hlies with h | h
              · intro e; subst e; exact hvne g hx h.symm
              · omega
            have hbg : Below B (wr.drew.alloc (.cells #[.int .i64 pn] 3)) w2 := ⟨hgrow.os, hgrow.tape, hgrow.output, hgrow.size, fun b hb => hgrow.block b (by have := hbb.size; simp; omega) (by
              rcases hown.2 with ⟨hv0, _⟩ | ⟨gg, cap, cur, hv, hg, _⟩
              · rw [hv0]; simp [Value.ownBlock]
              · rw [hv]; simp [Value.ownBlock]; omega)⟩
            have hbw : Below B wr w2 := ((Below.refl B wr).drew.alloc (by have := hbb.size; show B ≤ wr.heap.size; omega) _).trans hbg
            have hbw4 := (hbw.setCell (p := ⟨g4, 0, none⟩) (by dsimp only; omega) (.slice (some ⟨g, 0, none⟩) (i + 1) cap)).setCell (p := ⟨g5, 0, none⟩) (by dsimp only; omega) (.int .i64 (way + y))
            have k1h := (k1g.far (p := ⟨g4, 0, none⟩) hd1 (.slice (some ⟨g, 0, none⟩) (i + 1) cap)).far (p := ⟨g5, 0, none⟩) hd2 (.int .i64 (way + y))
            have k2i := k2h.far (p := ⟨g5, 0, none⟩) hd3 (.int .i64 (way + y))
            have k3h := (k3g.far (p := ⟨g4, 0, none⟩) hd4 (.slice (some ⟨g, 0, none⟩) (i + 1) cap)).far (p := ⟨g5, 0, none⟩) hd5 (.int .i64 (way + y))
            have k6h := (k6g.far (p := ⟨g4, 0, none⟩) hd6 (.slice (some ⟨g, 0, none⟩) (i + 1) cap)).far (p := ⟨g5, 0, none⟩) hd7 (.int .i64 (way + y))
            have k4h := (k4g.set_ 0 (.slice (some ⟨g, 0, none⟩) (i + 1) cap)).far (p := ⟨g5, 0, none⟩) hg45 (.int .i64 (way + y))
            have k5i := k5h.set_ 0 (.int .i64 (way + y))
            have hmh : KMap ((w2.setCell ⟨g4, 0, none⟩ (.slice (some ⟨g, 0, none⟩) (i + 1) cap)).setCell ⟨g5, 0, none⟩ (.int .i64 (way + y))) bm nm fk :=
              (hmg.block (Below.heap_setCell w2 ⟨g4, 0, none⟩ _ bm hd8)).block (Below.heap_setCell _ ⟨g5, 0, none⟩ _ bm hd9)
            have hownh := ownsRow_setCell (ownsRow_setCell hown2 (p := ⟨g4, 0, none⟩) (by simp [Value.ownBlock]; exact hgne g4 (by simp) l4) (.slice (some ⟨g, 0, none⟩) (i + 1) cap)) (p := ⟨g5, 0, none⟩) (by simp [Value.ownBlock]; exact hgne g5 (by simp) l5) (.int .i64 (way + y))
            have hvn2 : ∀ x, x ∈ [g1, g2, g3, g4, g5, g6, bm] → some x ≠ (Value.slice (some ⟨g, 0, none⟩) (i + 1) cap).ownBlock := fun x hx => by
              simp only [Value.ownBlock, ne_eq, Option.some.injEq]
              have hxl : x < wr.heap.size := by
                simp only [List.mem_cons, List.not_mem_nil, or_false] at hx
                rcases hx with rfl | rfl | rfl | rfl | rfl | rfl | rfl
                · exact k1.lt
                · exact k2.lt
                · exact k3.lt
                · exact k4.lt
                · exact k5.lt
                · exact k6.lt
                · exact hm.lt
              exact fun e => hgne x hx hxl e.symm
            have hkw : ∀ x, x < wr.heap.size → x ≠ g4 → x ≠ g5 → some x ≠ v.ownBlock → ((w2.setCell ⟨g4, 0, none⟩ (.slice (some ⟨g, 0, none⟩) (i + 1) cap)).setCell ⟨g5, 0, none⟩ (.int .i64 (way + y))).heap[x]? = wr.heap[x]? := fun x h1 h2 h3 h4 =>
              (Below.heap_setCell _ _ _ x (by simpa using h3)).trans ((Below.heap_setCell _ _ _ x (by simpa using h2)).trans ((hgrow.block x (by simp; omega) h4).trans (Below.heap_alloc wr.drew _ x h1)))
            have hgx : ∀ x, x < wr.heap.size → some x ≠ v.ownBlock → g ≠ x := fun x h1 h4 => by
              rcases hlies with h | h
              · intro e; subst e; exact h4 h.symm
              · omega
            have hsw4 : wr.heap.size ≤ ((w2.setCell ⟨g4, 0, none⟩ (.slice (some ⟨g, 0, none⟩) (i + 1) cap)).setCell ⟨g5, 0, none⟩ (.int .i64 (way + y))).heap.size := by have := hgrow.size; simp [World.setCell] at this ⊢; omega
            generalize (w2.setCell ⟨g4, 0, none⟩ (.slice (some ⟨g, 0, none⟩) (i + 1) cap)).setCell ⟨g5, 0, none⟩ (.int .i64 (way + y)) = w4 at *
            obtain ⟨x6, y6, z6⟩ := k6h.rules
            have t2 := IntWalk.i64_in ((i : Int) + 1) (by omega)
            have hcall := ih.out (i + 1) _ (plan ++ [(pn : Int)]) (way + y) w4 (by omega) (by simp [hpl]) (by omega) (by push_cast; omega) hvn2 k1h k2i k3h k4h k5i k6h (hbb.trans hbw4) hmh (by simpa using hownh)
            rw [show ((i + 1 : Nat) : Int) = (i : Int) + 1 by push_cast; rfl] at hcall
            clear k1 k2 k3 k4 k5 k6 k1a k2a k3a k4a k5a k6a k1g k2g k3g k4g k5g k6g k5h k2h e1h e1g hown hownA hown2 hgrow hm hmg
            go_wp2_with fail
            refine hcall.mono ?_
            rintro e w5 ⟨v', rfl, hb5, k4', ⟨n', hown'⟩, k5', hk5⟩
            clear hcall x6 y6 z6
            go_wp2
            try rw [Exit.noGoto_ret]
            go_ret
            rw [hrun.out]
            exact ⟨v', by rw [hcl]; rfl, hbw4.trans hb5, k4', ⟨n', hown'⟩, k5', fun x h1 h2 h3 h4 => (hk5 x (Nat.lt_of_lt_of_le h1 hsw4) h2 h3 (fun e => hgx x h1 h4 (by simpa [Value.ownBlock] using e.symm))).trans (hkw x h1 h2 h3 h4)⟩
          · go_simp
            refine hK _ _ (fun _ => hSa) ?_
            clear hK K
            refine till_one (i := 0) (by kernel_rfl) rfl rfl (fun K hK => ?_)
            go_simp
            refine hK _ _ (fun _ => hSa) ?_
            clear hK K
            refine till_one (i := 3) (by kernel_rfl) rfl rfl (fun K hK => ?_)
            refine wp_append_lies _ _ _ 33 (by rfl) B 3 i0 (.int .i64 0) 1 8 Tryz.underlying33 hi0 hz0 hz1 hz2 rfl (by omega) v i (plan.map (.int .i64 ·)) (by rfl) hownA ⟨wr.heap.size, 0, none⟩ 1 1 [.int .i64 pn] (by rfl) rfl hnews (by simp [Value.oneCell']) (by omega) hbig1.out hbig2.out hbase (wr.heap.size + 1) (by simp) ?_
            intro g cap w2 hown2 hgrow hlies hlt2
            have k2g := k2a.grown hgrow (hvne g2 (by simp))
            have k4g := k4a.grown hgrow (hvne g4 (by simp))
            have k5g := k5a.grown hgrow (hvne g5 (by simp))
            have k1g := k1a.grown hgrow (hvne g1 (by simp))
            have k3g := k3a.grown hgrow (hvne g3 (by simp))
            have k6g := k6a.grown hgrow (hvne g6 (by simp))
            have e1g := (World.grownBy.cell_far hgrow ⟨b2, o2 + pn, none⟩ (by simp; omega) hb2v).trans hSa.2.2
            have hmg : KMap w2 bm nm fk := hm.block ((hgrow.block bm (by have := hm.lt; simp; omega) (hvne bm (by simp))).trans (Below.heap_alloc wr.drew _ bm hm.lt))
            refine hK _ _ (fun _ => ⟨k5g.cell, k2g.cell, e1g⟩) ?_
            clear hK K
            try simp only [Act.put, sA, sZ, sS]
            refine till_one (i := 10) (by kernel_rfl) rfl rfl (fun K hK => ?_)
            obtain ⟨x4, y4, z4⟩ := k4g.rules
            go_simp
            have k5h := k5g.far (p := ⟨g4, 0, none⟩) (by dsimp only; omega) (.slice (some ⟨g, 0, none⟩) (i + 1) cap)
            have k2h := k2g.far (p := ⟨g4, 0, none⟩) (by dsimp only; omega) (.slice (some ⟨g, 0, none⟩) (i + 1) cap)
            have e1h := (World.cell?_setCell_far w2 ⟨g4, 0, none⟩ ⟨b2, o2 + pn, none⟩ (.slice (some ⟨g, 0, none⟩) (i + 1) cap) (by dsimp only; omega)).trans e1g
            refine hK _ _ (fun _ => ⟨k5h.cell, k2h.cell, e1h⟩) ?_
            clear hK K x4 y4 z4
            try simp only [Act.put, sA, sZ, sS]
            refine till_one (i := 11) (by kernel_rfl) rfl rfl (fun K hK => ?_)
            obtain ⟨x5, y5, z5⟩ := k5h.rules
            go_simp
            refine hK _ _ (fun h => nomatch (show true = false from h)) ?_
            clear hK K x5 y5 z5
            refine till_done (by kernel_rfl) ?_ _
            obtain ⟨hd1, hd2, hd3, hd4, hd5, hd6, hd7, hd8, hd9⟩ := hdis
            have hgne : ∀ x, x ∈ [g1, g2, g3, g4, g5, g6, bm] → x < wr.heap.size → g ≠ x := fun x hx hlt => by
              rcases hlies with h | h
              · intro e; subst e; exact hvne g hx h.symm
              · omega
            have hbg : Below B (wr.drew.alloc (.cells #[.int .i64 pn] 3)) w2 := ⟨hgrow.os, hgrow.tape, hgrow.output, hgrow.size, fun b hb => hgrow.block b (by have := hbb.size; simp; omega) (by
              rcases hown.2 with ⟨hv0, _⟩ | ⟨gg, cap, cur, hv, hg, _⟩
              · rw [hv0]; simp [Value.ownBlock]
              · rw [hv]; simp [Value.ownBlock]; omega)⟩
            have hbw : Below B wr w2 := ((Below.refl B wr).drew.alloc (by have := hbb.size; show B ≤ wr.heap.size; omega) _).trans hbg
            have hbw4 := (hbw.setCell (p := ⟨g4, 0, none⟩) (by dsimp only; omega) (.slice (some ⟨g, 0, none⟩) (i + 1) cap)).setCell (p := ⟨g5, 0, none⟩) (by dsimp only; omega) (.int .i64 (way + y))
            have k1h := (k1g.far (p := ⟨g4, 0, none⟩) hd1 (.slice (some ⟨g, 0, none⟩) (i + 1) cap)).far (p := ⟨g5, 0, none⟩) hd2 (.int .i64 (way + y))
            have k2i := k2h.far (p := ⟨g5, 0, none⟩) hd3 (.int .i64 (way + y))
            have k3h := (k3g.far (p := ⟨g4, 0, none⟩) hd4 (.slice (some ⟨g, 0, none⟩) (i + 1) cap)).far (p := ⟨g5, 0, none⟩) hd5 (.int .i64 (way + y))
            have k6h := (k6g.far (p := ⟨g4, 0, none⟩) hd6 (.slice (some ⟨g, 0, none⟩) (i + 1) cap)).far (p := ⟨g5, 0, none⟩) hd7 (.int .i64 (way + y))
            have k4h := (k4g.set_ 0 (.slice (some ⟨g, 0, none⟩) (i + 1) cap)).far (p := ⟨g5, 0, none⟩) hg45 (.int .i64 (way + y))
            have k5i := k5h.set_ 0 (.int .i64 (way + y))
            have hmh : KMap ((w2.setCell ⟨g4, 0, none⟩ (.slice (some ⟨g, 0, none⟩) (i + 1) cap)).setCell ⟨g5, 0, none⟩ (.int .i64 (way + y))) bm nm fk :=
              (hmg.block (Below.heap_setCell w2 ⟨g4, 0, none⟩ _ bm hd8)).block (Below.heap_setCell _ ⟨g5, 0, none⟩ _ bm hd9)
            have hownh := ownsRow_setCell (ownsRow_setCell hown2 (p := ⟨g4, 0, none⟩) (by simp [Value.ownBlock]; exact hgne g4 (by simp) l4) (.slice (some ⟨g, 0, none⟩) (i + 1) cap)) (p := ⟨g5, 0, none⟩) (by simp [Value.ownBlock]; exact hgne g5 (by simp) l5) (.int .i64 (way + y))
            have hvn2 : ∀ x, x ∈ [g1, g2, g3, g4, g5, g6, bm] → some x ≠ (Value.slice (some ⟨g, 0, none⟩) (i + 1) cap).ownBlock := fun x hx => by
              simp only [Value.ownBlock, ne_eq, Option.some.injEq]
              have hxl : x < wr.heap.size := by
                simp only [List.mem_cons, List.not_mem_nil, or_false] at hx
                rcases hx with rfl | rfl | rfl | rfl | rfl | rfl | rfl
                · exact k1.lt
                · exact k2.lt
                · exact k3.lt
                · exact k4.lt
                · exact k5.lt
                · exact k6.lt
                · exact hm.lt
              exact fun e => hgne x hx hxl e.symm
            have hkw : ∀ x, x < wr.heap.size → x ≠ g4 → x ≠ g5 → some x ≠ v.ownBlock → ((w2.setCell ⟨g4, 0, none⟩ (.slice (some ⟨g, 0, none⟩) (i + 1) cap)).setCell ⟨g5, 0, none⟩ (.int .i64 (way + y))).heap[x]? = wr.heap[x]? := fun x h1 h2 h3 h4 =>
              (Below.heap_setCell _ _ _ x (by simpa using h3)).trans ((Below.heap_setCell _ _ _ x (by simpa using h2)).trans ((hgrow.block x (by simp; omega) h4).trans (Below.heap_alloc wr.drew _ x h1)))
            have hgx : ∀ x, x < wr.heap.size → some x ≠ v.ownBlock → g ≠ x := fun x h1 h4 => by
              rcases hlies with h | h
              · intro e; subst e; exact h4 h.symm
              · omega
            have hsw4 : wr.heap.size ≤ ((w2.setCell ⟨g4, 0, none⟩ (.slice (some ⟨g, 0, none⟩) (i + 1) cap)).setCell ⟨g5, 0, none⟩ (.int .i64 (way + y))).heap.size := by have := hgrow.size; simp [World.setCell] at this ⊢; omega
            generalize (w2.setCell ⟨g4, 0, none⟩ (.slice (some ⟨g, 0, none⟩) (i + 1) cap)).setCell ⟨g5, 0, none⟩ (.int .i64 (way + y)) = w4 at *
            obtain ⟨x6, y6, z6⟩ := k6h.rules
            have t2 := IntWalk.i64_in ((i : Int) + 1) (by omega)
            have hcall := ih.out (i + 1) _ (plan ++ [(pn : Int)]) (way + y) w4 (by omega) (by simp [hpl]) (by omega) (by push_cast; omega) hvn2 k1h k2i k3h k4h k5i k6h (hbb.trans hbw4) hmh (by simpa using hownh)
            rw [show ((i + 1 : Nat) : Int) = (i : Int) + 1 by push_cast; rfl] at hcall
            clear k1 k2 k3 k4 k5 k6 k1a k2a k3a k4a k5a k6a k1g k2g k3g k4g k5g k6g k5h k2h e1h e1g hown hownA hown2 hgrow hm hmg
            go_wp2_with fail
            refine hcall.mono ?_
            rintro e w5 ⟨v', rfl, hb5, k4', ⟨n', hown'⟩, k5', hk5⟩
            clear hcall x6 y6 z6
            go_wp2
            try rw [Exit.noGoto_ret]
            go_ret
            rw [hrun.out]
            exact ⟨v', by rw [hcl]; rfl, hbw4.trans hb5, k4', ⟨n', hown'⟩, k5', fun x h1 h2 h3 h4 => (hk5 x (Nat.lt_of_lt_of_le h1 hsw4) h2 h3 (fun e => hgx x h1 h4 (by simpa [Value.ownBlock] using e.symm))).trans (hkw x h1 h2 h3 h4)⟩
end Go.Proofs.YtcmbmmpihiekhaaGreat
namespace Go.Proofs.YtcmbmmpihiekhaaGreat
open Go.RowKit Go.Shelf
attribute [local go_sem] Oper.semAt_some

/-! What the map says when step k has come as far as choice j. -/
def fmap (kept : Nat → Nat → Bool) (nc k j : Nat) : Nat → Nat → Bool := fun i q => decide ((i < k ∧ q < nc) ∨ (i = k ∧ q < j)) && kept i q
theorem fmap_zero (kept : Nat → Nat → Bool) (nc : Nat) : fmap kept nc 0 0 = fun _ _ => false := by
  funext i q; simp [fmap]
theorem fmap_next (kept : Nat → Nat → Bool) (nc k : Nat) : fmap kept nc k nc = fmap kept nc (k + 1) 0 := by
  funext i q
  unfold fmap
  congr 1
  apply dec_eq
  omega
theorem fmap_step (kept : Nat → Nat → Bool) (nc k j : Nat) : (fun i q => if i = k ∧ q = j then kept k j else fmap kept nc k j i q) = fmap kept nc k (j + 1) := by
  funext i q
  by_cases h : i = k ∧ q = j
  · obtain ⟨rfl, rfl⟩ := h
    simp [fmap]
  · rw [if_neg h]
    unfold fmap
    congr 1
    apply dec_eq
    omega
theorem pickTo_congr {f g : Nat → Bool} (ch : List Int) : ∀ n, (∀ q, q < n → f q = g q) → pickTo f ch n = pickTo g ch n
  | 0, _ => rfl
  | n + 1, h => by
    rw [pickTo_step, pickTo_step, h n (by omega), pickTo_congr ch n (fun q hq => h q (by omega))]
theorem runPlan_congr {p p' : Nat → Int} (ch : List Int) (nd : Nat) (h : ∀ i, i < nd → p i = p' i) : ∀ r plan way, r ≤ nd → runPlan p ch nd r plan way = runPlan p' ch nd r plan way
  | 0, _, _, _ => rfl
  | r + 1, plan, way, hr => by
    rw [runPlan, runPlan, h _ (by omega)]
    split
    · rfl
    · exact runPlan_congr ch nd h r _ _ (by omega)
theorem KMap.upd {w : World} {b n : Nat} {f : Nat → Nat → Bool} (h : KMap w b n f) {i k : Nat} (x : Bool) (hi : i ≤ 1000000) (hk : k ≤ 1000000) (hn : n < maxLen) :
    ∃ w', (Instr.mapUpdate 85 (.map (some b)) (.agg #[.int .i64 i, .int .i64 k]) (.bool x)).run Tryz.prog w = .ok () w' ∧ KMap w' b (n + 1) (fun i' k' => if i' = i ∧ k' = k then x else f i' k') ∧ w.grownBy w' (some b) := by
  obtain ⟨D, ho, hput⟩ := h.put (w0' := w) (x := x) hi hk
  obtain ⟨w', hrun, h1, h2⟩ := ho.update keyed2 underMap2 hn (keyOf_kl (small_nat hi) (small_nat hk)) (plainElem_bool underBool x)
  exact ⟨w', hrun, hput w' h1, h2⟩
def RetFast (r : List Int × Int × Int) (w : World) (e : Ending) (w' : World) : Prop :=
  ∃ P pn pc, e = .returned (.tuple #[.slice P pn pc, .int .i64 r.2.1, .int .i64 r.2.2]) ∧ SlAt w' w.heap.size 1 ivs P pn pc r.1 ∧ Below w.heap.size w w'
def FastI (s : Strm) (A O D C : Option Addr) (n c co nd cd nc cc gt g12 bm : Nat) (w W : World) : Prop :=
  Blk W (w.heap.size + 1) 32 #[.slice D nd cd] ∧ Blk W (w.heap.size + 1 + 1) 33 #[.slice C nc cc] ∧ Blk W (w.heap.size + 1 + 1 + 1) 33 #[.slice none 0 0] ∧ Blk W (w.heap.size + 1 + 1 + 1 + 1) 3 #[.int .i64 0] ∧
  Blk W gt 81 #[.int .i64 s.head, .slice A n c, .int .i64 s.lane.lo, .int .i64 s.lane.hi, .int .i64 s.bend, .slice O n co] ∧ Blk W g12 85 #[.map (some bm)] ∧ Below w.heap.size w W
section
variable {s : Strm} {A O D C : Option Addr} {n c co nd cd nc cc gt g12 bm : Nat} {w W W' : World}
theorem FastI.calm {B : Nat} (h : FastI s A O D C n c co nd cd nc cc gt g12 bm w W) (hc : Calm B W W') (hB : w.heap.size ≤ B) : FastI s A O D C n c co nd cd nc cc gt g12 bm w W' :=
  ⟨calm_blk hc h.1, calm_blk hc h.2.1, calm_blk hc h.2.2.1, calm_blk hc h.2.2.2.1, calm_blk hc h.2.2.2.2.1, calm_blk hc h.2.2.2.2.2.1, calm_below hc h.2.2.2.2.2.2 hB⟩
theorem FastI.below (h : FastI s A O D C n c co nd cd nc cc gt g12 bm w W) (hb : Below W.heap.size W W') : FastI s A O D C n c co nd cd nc cc gt g12 bm w W' := h.calm (calm_of_below hb (Nat.le_refl _)) h.2.2.2.2.2.2.size
theorem FastI.grown (h : FastI s A O D C n c co nd cd nc cc gt g12 bm w W) (hg : W.grownBy W' (some bm)) (h1 : w.heap.size + 1 + 1 + 1 + 1 < bm) (h2 : gt ≠ bm) (h3 : g12 ≠ bm) : FastI s A O D C n c co nd cd nc cc gt g12 bm w W' :=
  ⟨h.1.grown hg (by simp; omega), h.2.1.grown hg (by simp; omega), h.2.2.1.grown hg (by simp; omega), h.2.2.2.1.grown hg (by simp; omega), h.2.2.2.2.1.grown hg (by simp; omega), h.2.2.2.2.2.1.grown hg (by simp; omega),
    h.2.2.2.2.2.2.trans ⟨hg.os, hg.tape, hg.output, hg.size, fun b hb => hg.block b (by have := h.2.2.2.2.2.2.size; omega) (by simp; omega)⟩⟩
theorem nc_grown {B : Nat} (hg : W.grownBy W' (some bm)) (h : bm < B) : NC B W W' := ⟨hg.size, fun k _ hk ho => (hg.block k (Array.getElem?_eq_some_iff.1 ho).1 (by simp; omega)).trans ho⟩
end
theorem Fastest_err (s : Strm) (A O D C : Option Addr) (n c no co nd cd nc cc : Nat) (bs : List Bnd) (l : List Wat) (ch : List Int) (w : World) (hss : SlAt w 0 5 Sec.cells A n c s.secs) (hs : SlAt w 0 2 Bnd.cells O no co bs) (hd : SlAt w 0 4 Wat.cells D nd cd l) (hcs : SlAt w 0 1 ivs C nc cc ch) (h1 : errBW s bs l ≠ 0) :
    Calls Tryz.prog 5 #[.agg #[.int .i64 s.head, .slice A n c, .int .i64 s.lane.lo, .int .i64 s.lane.hi, .int .i64 s.bend], .slice O no co, .slice D nd cd, .slice C nc cc] w (RetFast (fastR s bs l ch) w) := by
  have hv : fastR s bs l ch = ([], 0, errBW s bs l) := by simp [fastR, h1]
  rw [hv]
  have h1' : (errBW s bs l != 0) = true := by rw [bne_iff_ne]; exact h1
  replace h1 := Lib.hid h1
  clear hv
  by_cases h2 : errB s bs = 0
  · replace h2 := Lib.hid h2
    refine (callsIn_wide (n := 9)).1 ?_
    refine callsIn_of_wp_marks Tryz.func5 rfl trivial ?_ rfl
    simp only [Tryz.ntmps5, List.size_toArray, List.length_cons, List.length_nil, Nat.reduceAdd, Nat.reduceSub, Array.replicate_succ, Array.replicate_zero, List.push_toArray, List.append_toArray, List.nil_append, List.cons_append]
    refine wpIn_wide.2 ?_
    go_wp2_with fail
    refine (begun_any s A O D n c no co nd cd bs l _ (((((hss.alloc _).alloc _).alloc _).alloc _).alloc _) (((((hs.alloc _).alloc _).alloc _).alloc _).alloc _) (((((hd.alloc _).alloc _).alloc _).alloc _).alloc _)).mono ?_
    rintro e w1 ⟨r1, r2, hb1⟩
    have k6 : Blk w1 (w.heap.size + 1) 32 #[.slice D nd cd] := ((((Blk.newAt (by simp)).alloc _).alloc _).alloc _).below hb1
    have k7 : Blk w1 (w.heap.size + 1 + 1) 33 #[.slice C nc cc] := (((Blk.newAt (by simp)).alloc _).alloc _).below hb1
    have k8 : Blk w1 (w.heap.size + 1 + 1 + 1) 33 #[.slice none 0 0] := ((Blk.newAt (by simp)).alloc _).below hb1
    have k9 : Blk w1 (w.heap.size + 1 + 1 + 1 + 1) 3 #[.int .i64 0] := (Blk.newAt (by simp)).below hb1
    have b1 := ((((((Below.refl w.heap.size w).alloc (Nat.le_refl _) _).alloc (by simp) _).alloc (by simp; omega) _).alloc (by simp; omega) _).alloc (by simp; omega) _).trans (hb1.mono (by simp; omega))
    clear hb1
    obtain rfl := r1 h2.out
    clear r1 r2
    have k8z := ((k8.set_ 0 (.slice none 0 0)).far (p := ⟨w.heap.size + 1 + 1 + 1 + 1, 0, none⟩) (by dsimp only; omega) (.int .i64 0)).alloc (.cells #[.int .i64 s.head, .slice A n c, .int .i64 s.lane.lo, .int .i64 s.lane.hi, .int .i64 s.bend, .slice O no co] 81)
    have k9z := ((k9.far (p := ⟨w.heap.size + 1 + 1 + 1, 0, none⟩) (by dsimp only; omega) (.slice none 0 0)).set_ 0 (.int .i64 0)).alloc (.cells #[.int .i64 s.head, .slice A n c, .int .i64 s.lane.lo, .int .i64 s.lane.hi, .int .i64 s.bend, .slice O no co] 81)
    have bz0 := (b1.setCell (p := ⟨w.heap.size + 1 + 1 + 1, 0, none⟩) (by dsimp only; omega) (.slice none 0 0)).setCell (p := ⟨w.heap.size + 1 + 1 + 1 + 1, 0, none⟩) (by dsimp only; omega) (.int .i64 0)
    have bz := bz0.alloc bz0.size (.cells #[.int .i64 s.head, .slice A n c, .int .i64 s.lane.lo, .int .i64 s.lane.hi, .int .i64 s.bend, .slice O no co] 81)
    obtain ⟨wz, hwz⟩ : ∃ x, x = ((w1.setCell ⟨w.heap.size + 1 + 1 + 1, 0, none⟩ (.slice none 0 0)).setCell ⟨w.heap.size + 1 + 1 + 1 + 1, 0, none⟩ (.int .i64 0)).alloc (.cells #[.int .i64 s.head, .slice A n c, .int .i64 s.lane.lo, .int .i64 s.lane.hi, .int .i64 s.bend, .slice O no co] 81) := ⟨_, rfl⟩
    rw [← hwz] at k8z k9z bz
    obtain ⟨c6, f6, l6⟩ := k6.rules
    obtain ⟨c7, f7, l7⟩ := k7.rules
    obtain ⟨c8, f8, l8⟩ := k8.rules
    obtain ⟨c9, f9, l9⟩ := k9.rules
    clear hss hs hd hcs
    go_wp2_with (go_at_call 20; refine (within_any _ _ _ _).mono ?_; rintro e w' ⟨rfl, rfl⟩)
    rw [← hwz]
    clear hwz c6 f6 l6 c7 f7 l7 c8 f8 l8 c9 f9 l9
    obtain ⟨c8, f8, l8⟩ := k8z.rules
    obtain ⟨c9, f9, l9⟩ := k9z.rules
    exact ⟨.tuple #[.slice none 0 0, .int .i64 0, .int .i64 (errBW s bs l)], by simp [results, Tryz.results5, go_sem, c8, c9], none, 0, 0, rfl, SlAt.nil _ _ _ _, bz⟩
  · replace h2 := Lib.hid h2
    refine (callsIn_wide (n := 9)).1 ?_
    refine callsIn_of_wp_marks Tryz.func5 rfl trivial ?_ rfl
    simp only [Tryz.ntmps5, List.size_toArray, List.length_cons, List.length_nil, Nat.reduceAdd, Nat.reduceSub, Array.replicate_succ, Array.replicate_zero, List.push_toArray, List.append_toArray, List.nil_append, List.cons_append]
    refine wpIn_wide.2 ?_
    go_wp2_with fail
    refine (begun_any s A O D n c no co nd cd bs l _ (((((hss.alloc _).alloc _).alloc _).alloc _).alloc _) (((((hs.alloc _).alloc _).alloc _).alloc _).alloc _) (((((hd.alloc _).alloc _).alloc _).alloc _).alloc _)).mono ?_
    rintro e w1 ⟨r1, r2, hb1⟩
    have k6 : Blk w1 (w.heap.size + 1) 32 #[.slice D nd cd] := ((((Blk.newAt (by simp)).alloc _).alloc _).alloc _).below hb1
    have k7 : Blk w1 (w.heap.size + 1 + 1) 33 #[.slice C nc cc] := (((Blk.newAt (by simp)).alloc _).alloc _).below hb1
    have k8 : Blk w1 (w.heap.size + 1 + 1 + 1) 33 #[.slice none 0 0] := ((Blk.newAt (by simp)).alloc _).below hb1
    have k9 : Blk w1 (w.heap.size + 1 + 1 + 1 + 1) 3 #[.int .i64 0] := (Blk.newAt (by simp)).below hb1
    have b1 := ((((((Below.refl w.heap.size w).alloc (Nat.le_refl _) _).alloc (by simp) _).alloc (by simp; omega) _).alloc (by simp; omega) _).alloc (by simp; omega) _).trans (hb1.mono (by simp; omega))
    clear hb1
    obtain rfl := r2 h2.out
    clear r1 r2
    have k8z := ((k8.set_ 0 (.slice none 0 0)).far (p := ⟨w.heap.size + 1 + 1 + 1 + 1, 0, none⟩) (by dsimp only; omega) (.int .i64 0)).alloc (.cells #[.int .i64 0, .slice none 0 0, .int .i64 0, .int .i64 0, .int .i64 0, .slice none 0 0] 81)
    have k9z := ((k9.far (p := ⟨w.heap.size + 1 + 1 + 1, 0, none⟩) (by dsimp only; omega) (.slice none 0 0)).set_ 0 (.int .i64 0)).alloc (.cells #[.int .i64 0, .slice none 0 0, .int .i64 0, .int .i64 0, .int .i64 0, .slice none 0 0] 81)
    have bz0 := (b1.setCell (p := ⟨w.heap.size + 1 + 1 + 1, 0, none⟩) (by dsimp only; omega) (.slice none 0 0)).setCell (p := ⟨w.heap.size + 1 + 1 + 1 + 1, 0, none⟩) (by dsimp only; omega) (.int .i64 0)
    have bz := bz0.alloc bz0.size (.cells #[.int .i64 0, .slice none 0 0, .int .i64 0, .int .i64 0, .int .i64 0, .slice none 0 0] 81)
    obtain ⟨wz, hwz⟩ : ∃ x, x = ((w1.setCell ⟨w.heap.size + 1 + 1 + 1, 0, none⟩ (.slice none 0 0)).setCell ⟨w.heap.size + 1 + 1 + 1 + 1, 0, none⟩ (.int .i64 0)).alloc (.cells #[.int .i64 0, .slice none 0 0, .int .i64 0, .int .i64 0, .int .i64 0, .slice none 0 0] 81) := ⟨_, rfl⟩
    rw [← hwz] at k8z k9z bz
    obtain ⟨c6, f6, l6⟩ := k6.rules
    obtain ⟨c7, f7, l7⟩ := k7.rules
    obtain ⟨c8, f8, l8⟩ := k8.rules
    obtain ⟨c9, f9, l9⟩ := k9.rules
    clear hss hs hd hcs
    go_wp2_with (go_at_call 20; refine (within_any _ _ _ _).mono ?_; rintro e w' ⟨rfl, rfl⟩)
    rw [← hwz]
    clear hwz c6 f6 l6 c7 f7 l7 c8 f8 l8 c9 f9 l9
    obtain ⟨c8, f8, l8⟩ := k8z.rules
    obtain ⟨c9, f9, l9⟩ := k9z.rules
    exact ⟨.tuple #[.slice none 0 0, .int .i64 0, .int .i64 (errBW s bs l)], by simp [results, Tryz.results5, go_sem, c8, c9], none, 0, 0, rfl, SlAt.nil _ _ _ _, bz⟩
theorem errBW_n {s : Strm} {bs : List Bnd} {l : List Wat} {A O : Option Addr} {n c no co : Nat} {w : World} (h1 : errBW s bs l = 0) (hss : SlAt w 0 5 Sec.cells A n c s.secs) (hs : SlAt w 0 2 Bnd.cells O no co bs) : no = n := by
  have e2 := (errB_zero (errBW_zero h1).1).2
  have := okOffs_len e2; have := hs.len; have := hss.len; omega
theorem Fastest_lim (s : Strm) (A O D C : Option Addr) (n c co nd cd nc cc : Nat) (bs : List Bnd) (l : List Wat) (ch : List Int) (w : World) (hss : SlAt w 0 5 Sec.cells A n c s.secs) (hs : SlAt w 0 2 Bnd.cells O n co bs) (hd : SlAt w 0 4 Wat.cells D nd cd l) (hcs : SlAt w 0 1 ivs C nc cc ch) (h1 : errBW s bs l = 0) (h3 : ¬ (1 ≤ l.length ∧ l.length ≤ 6 ∧ 1 ≤ ch.length ∧ ch.length ≤ 4)) :
    Calls Tryz.prog 5 #[.agg #[.int .i64 s.head, .slice A n c, .int .i64 s.lane.lo, .int .i64 s.lane.hi, .int .i64 s.bend], .slice O n co, .slice D nd cd, .slice C nc cc] w (RetFast (fastR s bs l ch) w) := by
  have hv : fastR s bs l ch = ([], 0, 3) := by unfold fastR; rw [if_neg (by simp [h1]), if_pos h3]
  rw [hv, ]
  clear hv
  have h2 := Lib.hid (errBW_zero h1).1
  replace h1 := Lib.hid h1
  have hld := hd.len
  have hlc := hcs.len
  rw [hld, hlc] at h3
  have hwL := fun W => within_any (nd : Int) 1 6 W
  have hwC := fun W => within_any (nc : Int) 1 4 W
  by_cases hnd : 1 ≤ nd ∧ nd ≤ 6
  · have hnc : ¬ (1 ≤ nc ∧ nc ≤ 4) := fun h => h3 ⟨hnd.1, hnd.2, h⟩
    simp only [decide_eq_true (show 1 ≤ (nd : Int) ∧ (nd : Int) ≤ 6 by omega)] at hwL
    simp only [decide_eq_false (show ¬ (1 ≤ (nc : Int) ∧ (nc : Int) ≤ 4) by omega)] at hwC
    clear hld hlc hnd hnc h3
    refine (callsIn_wide (n := 9)).1 ?_
    refine callsIn_of_wp_marks Tryz.func5 rfl trivial ?_ rfl
    simp only [Tryz.ntmps5, List.size_toArray, List.length_cons, List.length_nil, Nat.reduceAdd, Nat.reduceSub, Array.replicate_succ, Array.replicate_zero, List.push_toArray, List.append_toArray, List.nil_append, List.cons_append]
    refine wpIn_wide.2 ?_
    go_wp2_with fail
    refine (begun_any s A O D n c n co nd cd bs l _ (((((hss.alloc _).alloc _).alloc _).alloc _).alloc _) (((((hs.alloc _).alloc _).alloc _).alloc _).alloc _) (((((hd.alloc _).alloc _).alloc _).alloc _).alloc _)).mono ?_
    rintro e w1 ⟨r1, r2, hb1⟩
    have k6 : Blk w1 (w.heap.size + 1) 32 #[.slice D nd cd] := ((((Blk.newAt (by simp)).alloc _).alloc _).alloc _).below hb1
    have k7 : Blk w1 (w.heap.size + 1 + 1) 33 #[.slice C nc cc] := (((Blk.newAt (by simp)).alloc _).alloc _).below hb1
    have k8 : Blk w1 (w.heap.size + 1 + 1 + 1) 33 #[.slice none 0 0] := ((Blk.newAt (by simp)).alloc _).below hb1
    have k9 : Blk w1 (w.heap.size + 1 + 1 + 1 + 1) 3 #[.int .i64 0] := (Blk.newAt (by simp)).below hb1
    have b1 := ((((((Below.refl w.heap.size w).alloc (Nat.le_refl _) _).alloc (by simp) _).alloc (by simp; omega) _).alloc (by simp; omega) _).alloc (by simp; omega) _).trans (hb1.mono (by simp; omega))
    clear hb1
    rw [h1.out] at r1
    obtain rfl := r1 h2.out
    clear r1 r2
    replace k6 := k6.alloc (.cells #[.int .i64 s.head, .slice A n c, .int .i64 s.lane.lo, .int .i64 s.lane.hi, .int .i64 s.bend, .slice O n co] 81)
    replace k7 := k7.alloc (.cells #[.int .i64 s.head, .slice A n c, .int .i64 s.lane.lo, .int .i64 s.lane.hi, .int .i64 s.bend, .slice O n co] 81)
    replace k8 := k8.alloc (.cells #[.int .i64 s.head, .slice A n c, .int .i64 s.lane.lo, .int .i64 s.lane.hi, .int .i64 s.bend, .slice O n co] 81)
    replace k9 := k9.alloc (.cells #[.int .i64 s.head, .slice A n c, .int .i64 s.lane.lo, .int .i64 s.lane.hi, .int .i64 s.bend, .slice O n co] 81)
    have k11 := Blk.new w1 81 #[.int .i64 s.head, .slice A n c, .int .i64 s.lane.lo, .int .i64 s.lane.hi, .int .i64 s.bend, .slice O n co]
    replace b1 := b1.alloc b1.size (.cells #[.int .i64 s.head, .slice A n c, .int .i64 s.lane.lo, .int .i64 s.lane.hi, .int .i64 s.bend, .slice O n co] 81)
    obtain ⟨c6, f6, l6⟩ := k6.rules
    go_wp2_with fail
    refine (hwL _).mono ?_
    rintro e w' ⟨rfl, rfl⟩
    obtain ⟨c7, f7, l7⟩ := k7.rules
    go_wp2_with fail
    refine (hwC _).mono ?_
    rintro e w' ⟨rfl, rfl⟩
    have k8z := (k8.set_ 0 (.slice none 0 0)).far (p := ⟨w.heap.size + 1 + 1 + 1 + 1, 0, none⟩) (by dsimp only; omega) (.int .i64 0)
    have k9z := (k9.far (p := ⟨w.heap.size + 1 + 1 + 1, 0, none⟩) (by dsimp only; omega) (.slice none 0 0)).set_ 0 (.int .i64 0)
    have bz := (b1.setCell (p := ⟨w.heap.size + 1 + 1 + 1, 0, none⟩) (by dsimp only; omega) (.slice none 0 0)).setCell (p := ⟨w.heap.size + 1 + 1 + 1 + 1, 0, none⟩) (by dsimp only; omega) (.int .i64 0)
    obtain ⟨c8, f8, l8⟩ := k8.rules
    obtain ⟨c9, f9, l9⟩ := k9.rules
    go_wp2_with fail
    clear c8 f8 l8 c9 f9 l9
    obtain ⟨c8, f8, l8⟩ := k8z.rules
    obtain ⟨c9, f9, l9⟩ := k9z.rules
    exact ⟨.tuple #[.slice none 0 0, .int .i64 0, .int .i64 3], by simp [results, Tryz.results5, go_sem, c8, c9], none, 0, 0, rfl, SlAt.nil _ _ _ _, bz⟩
  · simp only [decide_eq_false (show ¬ (1 ≤ (nd : Int) ∧ (nd : Int) ≤ 6) by omega)] at hwL
    clear hld hlc hnd h3 hwC
    refine (callsIn_wide (n := 9)).1 ?_
    refine callsIn_of_wp_marks Tryz.func5 rfl trivial ?_ rfl
    simp only [Tryz.ntmps5, List.size_toArray, List.length_cons, List.length_nil, Nat.reduceAdd, Nat.reduceSub, Array.replicate_succ, Array.replicate_zero, List.push_toArray, List.append_toArray, List.nil_append, List.cons_append]
    refine wpIn_wide.2 ?_
    go_wp2_with fail
    refine (begun_any s A O D n c n co nd cd bs l _ (((((hss.alloc _).alloc _).alloc _).alloc _).alloc _) (((((hs.alloc _).alloc _).alloc _).alloc _).alloc _) (((((hd.alloc _).alloc _).alloc _).alloc _).alloc _)).mono ?_
    rintro e w1 ⟨r1, r2, hb1⟩
    have k6 : Blk w1 (w.heap.size + 1) 32 #[.slice D nd cd] := ((((Blk.newAt (by simp)).alloc _).alloc _).alloc _).below hb1
    have k7 : Blk w1 (w.heap.size + 1 + 1) 33 #[.slice C nc cc] := (((Blk.newAt (by simp)).alloc _).alloc _).below hb1
    have k8 : Blk w1 (w.heap.size + 1 + 1 + 1) 33 #[.slice none 0 0] := ((Blk.newAt (by simp)).alloc _).below hb1
    have k9 : Blk w1 (w.heap.size + 1 + 1 + 1 + 1) 3 #[.int .i64 0] := (Blk.newAt (by simp)).below hb1
    have b1 := ((((((Below.refl w.heap.size w).alloc (Nat.le_refl _) _).alloc (by simp) _).alloc (by simp; omega) _).alloc (by simp; omega) _).alloc (by simp; omega) _).trans (hb1.mono (by simp; omega))
    clear hb1
    rw [h1.out] at r1
    obtain rfl := r1 h2.out
    clear r1 r2
    replace k6 := k6.alloc (.cells #[.int .i64 s.head, .slice A n c, .int .i64 s.lane.lo, .int .i64 s.lane.hi, .int .i64 s.bend, .slice O n co] 81)
    replace k7 := k7.alloc (.cells #[.int .i64 s.head, .slice A n c, .int .i64 s.lane.lo, .int .i64 s.lane.hi, .int .i64 s.bend, .slice O n co] 81)
    replace k8 := k8.alloc (.cells #[.int .i64 s.head, .slice A n c, .int .i64 s.lane.lo, .int .i64 s.lane.hi, .int .i64 s.bend, .slice O n co] 81)
    replace k9 := k9.alloc (.cells #[.int .i64 s.head, .slice A n c, .int .i64 s.lane.lo, .int .i64 s.lane.hi, .int .i64 s.bend, .slice O n co] 81)
    have k11 := Blk.new w1 81 #[.int .i64 s.head, .slice A n c, .int .i64 s.lane.lo, .int .i64 s.lane.hi, .int .i64 s.bend, .slice O n co]
    replace b1 := b1.alloc b1.size (.cells #[.int .i64 s.head, .slice A n c, .int .i64 s.lane.lo, .int .i64 s.lane.hi, .int .i64 s.bend, .slice O n co] 81)
    obtain ⟨c6, f6, l6⟩ := k6.rules
    go_wp2_with fail
    refine (hwL _).mono ?_
    rintro e w' ⟨rfl, rfl⟩
    have k8z := (k8.set_ 0 (.slice none 0 0)).far (p := ⟨w.heap.size + 1 + 1 + 1 + 1, 0, none⟩) (by dsimp only; omega) (.int .i64 0)
    have k9z := (k9.far (p := ⟨w.heap.size + 1 + 1 + 1, 0, none⟩) (by dsimp only; omega) (.slice none 0 0)).set_ 0 (.int .i64 0)
    have bz := (b1.setCell (p := ⟨w.heap.size + 1 + 1 + 1, 0, none⟩) (by dsimp only; omega) (.slice none 0 0)).setCell (p := ⟨w.heap.size + 1 + 1 + 1 + 1, 0, none⟩) (by dsimp only; omega) (.int .i64 0)
    obtain ⟨c8, f8, l8⟩ := k8.rules
    obtain ⟨c9, f9, l9⟩ := k9.rules
    go_wp2_with fail
    clear c8 f8 l8 c9 f9 l9
    obtain ⟨c8, f8, l8⟩ := k8z.rules
    obtain ⟨c9, f9, l9⟩ := k9z.rules
    exact ⟨.tuple #[.slice none 0 0, .int .i64 0, .int .i64 3], by simp [results, Tryz.results5, go_sem, c8, c9], none, 0, 0, rfl, SlAt.nil _ _ _ _, bz⟩
theorem Fastest_spd (s : Strm) (A O D C : Option Addr) (n c co nd cd nc cc : Nat) (bs : List Bnd) (l : List Wat) (ch : List Int) (w : World) (hss : SlAt w 0 5 Sec.cells A n c s.secs) (hs : SlAt w 0 2 Bnd.cells O n co bs) (hd : SlAt w 0 4 Wat.cells D nd cd l) (hcs : SlAt w 0 1 ivs C nc cc ch) (h1 : errBW s bs l = 0) (h3 : 1 ≤ l.length ∧ l.length ≤ 6 ∧ 1 ≤ ch.length ∧ ch.length ≤ 4) (h4 : okSpeeds ch = false) :
    Calls Tryz.prog 5 #[.agg #[.int .i64 s.head, .slice A n c, .int .i64 s.lane.lo, .int .i64 s.lane.hi, .int .i64 s.bend], .slice O n co, .slice D nd cd, .slice C nc cc] w (RetFast (fastR s bs l ch) w) := by
  have hv : fastR s bs l ch = ([], 0, 34) := by unfold fastR; rw [if_neg (by simp [h1]), if_neg (by simpa using h3), if_pos h4]
  rw [hv]
  clear hv
  have h2 := Lib.hid (errBW_zero h1).1
  replace h1 := Lib.hid h1
  rw [hd.len, hcs.len] at h3
  have hwL := fun W => within_any (nd : Int) 1 6 W
  have hwC := fun W => within_any (nc : Int) 1 4 W
  simp only [decide_eq_true (show 1 ≤ (nd : Int) ∧ (nd : Int) ≤ 6 by omega)] at hwL
  simp only [decide_eq_true (show 1 ≤ (nc : Int) ∧ (nc : Int) ≤ 4 by omega)] at hwC
  have hsp := fun W (hW : Below w.heap.size w W) => speeds_any C nc cc 0 ch W (hcs.below hW)
  simp only [h4] at hsp
  clear h3 h4
  refine (callsIn_wide (n := 9)).1 ?_
  refine callsIn_of_wp_marks Tryz.func5 rfl trivial ?_ rfl
  simp only [Tryz.ntmps5, List.size_toArray, List.length_cons, List.length_nil, Nat.reduceAdd, Nat.reduceSub, Array.replicate_succ, Array.replicate_zero, List.push_toArray, List.append_toArray, List.nil_append, List.cons_append]
  refine wpIn_wide.2 ?_
  go_wp2_with fail
  refine (begun_any s A O D n c n co nd cd bs l _ (((((hss.alloc _).alloc _).alloc _).alloc _).alloc _) (((((hs.alloc _).alloc _).alloc _).alloc _).alloc _) (((((hd.alloc _).alloc _).alloc _).alloc _).alloc _)).mono ?_
  rintro e w1 ⟨r1, r2, hb1⟩
  have k6 : Blk w1 (w.heap.size + 1) 32 #[.slice D nd cd] := ((((Blk.newAt (by simp)).alloc _).alloc _).alloc _).below hb1
  have k7 : Blk w1 (w.heap.size + 1 + 1) 33 #[.slice C nc cc] := (((Blk.newAt (by simp)).alloc _).alloc _).below hb1
  have k8 : Blk w1 (w.heap.size + 1 + 1 + 1) 33 #[.slice none 0 0] := ((Blk.newAt (by simp)).alloc _).below hb1
  have k9 : Blk w1 (w.heap.size + 1 + 1 + 1 + 1) 3 #[.int .i64 0] := (Blk.newAt (by simp)).below hb1
  have b1 := ((((((Below.refl w.heap.size w).alloc (Nat.le_refl _) _).alloc (by simp) _).alloc (by simp; omega) _).alloc (by simp; omega) _).alloc (by simp; omega) _).trans (hb1.mono (by simp; omega))
  clear hb1
  rw [h1.out] at r1
  obtain rfl := r1 h2.out
  clear r1 r2
  replace k6 := k6.alloc (.cells #[.int .i64 s.head, .slice A n c, .int .i64 s.lane.lo, .int .i64 s.lane.hi, .int .i64 s.bend, .slice O n co] 81)
  replace k7 := k7.alloc (.cells #[.int .i64 s.head, .slice A n c, .int .i64 s.lane.lo, .int .i64 s.lane.hi, .int .i64 s.bend, .slice O n co] 81)
  replace k8 := k8.alloc (.cells #[.int .i64 s.head, .slice A n c, .int .i64 s.lane.lo, .int .i64 s.lane.hi, .int .i64 s.bend, .slice O n co] 81)
  replace k9 := k9.alloc (.cells #[.int .i64 s.head, .slice A n c, .int .i64 s.lane.lo, .int .i64 s.lane.hi, .int .i64 s.bend, .slice O n co] 81)
  have k11 := Blk.new w1 81 #[.int .i64 s.head, .slice A n c, .int .i64 s.lane.lo, .int .i64 s.lane.hi, .int .i64 s.bend, .slice O n co]
  replace b1 := b1.alloc b1.size (.cells #[.int .i64 s.head, .slice A n c, .int .i64 s.lane.lo, .int .i64 s.lane.hi, .int .i64 s.bend, .slice O n co] 81)
  obtain ⟨c6, f6, l6⟩ := k6.rules
  go_wp2_with fail
  refine (hwL _).mono ?_
  rintro e w' ⟨rfl, rfl⟩
  obtain ⟨c7, f7, l7⟩ := k7.rules
  go_wp2_with fail
  refine (hwC _).mono ?_
  rintro e w' ⟨rfl, rfl⟩
  go_wp2_with fail
  refine (hsp _ b1).mono ?_
  rintro e w2 ⟨rfl, hb2⟩
  clear c6 f6 l6 c7 f7 l7 hsp hwC hwL
  replace k6 := k6.below hb2
  replace k7 := k7.below hb2
  replace k8 := k8.below hb2
  replace k9 := k9.below hb2
  replace k11 := k11.below hb2
  replace b1 := b1.trans (hb2.mono b1.size)
  clear hb2
  have k8z := (k8.set_ 0 (.slice none 0 0)).far (p := ⟨w.heap.size + 1 + 1 + 1 + 1, 0, none⟩) (by dsimp only; omega) (.int .i64 0)
  have k9z := (k9.far (p := ⟨w.heap.size + 1 + 1 + 1, 0, none⟩) (by dsimp only; omega) (.slice none 0 0)).set_ 0 (.int .i64 0)
  have bz := (b1.setCell (p := ⟨w.heap.size + 1 + 1 + 1, 0, none⟩) (by dsimp only; omega) (.slice none 0 0)).setCell (p := ⟨w.heap.size + 1 + 1 + 1 + 1, 0, none⟩) (by dsimp only; omega) (.int .i64 0)
  obtain ⟨c8, f8, l8⟩ := k8.rules
  obtain ⟨c9, f9, l9⟩ := k9.rules
  go_wp2_with fail
  clear c8 f8 l8 c9 f9 l9
  obtain ⟨c8, f8, l8⟩ := k8z.rules
  obtain ⟨c9, f9, l9⟩ := k9z.rules
  exact ⟨.tuple #[.slice none 0 0, .int .i64 0, .int .i64 34], by simp [results, Tryz.results5, go_sem, c8, c9], none, 0, 0, rfl, SlAt.nil _ _ _ _, bz⟩
end Go.Proofs.YtcmbmmpihiekhaaGreat
namespace Go.Proofs.YtcmbmmpihiekhaaGreat
open Go.RowKit Go.Shelf
attribute [local go_sem] Oper.semAt_some
theorem map_ivs (l : List Int) : l.map (Value.int .i64 ·) = l.flatMap ivs := by induction l with | nil => rfl | cons x l ih => simp [ivs, ih]
theorem sl_reset {w : World} {α : Type} {B s : Nat} {enc : α → List Value} {A : Option Addr} {n c : Nat} {xs : List α} (h : SlAt w B s enc A n c xs) {p : Addr} {u : Value} (hp : w.cell? p = some u) : SlAt (w.setCell p u) B s enc A n c xs := by
  refine h.keep (by simp [World.setCell]) fun q _ _ => ?_
  by_cases e : q = p
  · subst e
    rw [hp]
    exact World.cell?_setCell_same _ _ _ (by rw [hp])
  · exact World.cell?_setCell_other w p q u (fun h => e h.symm)
theorem runPlan_len (p : Nat → Int) (ch : List Int) (nd : Nat) : ∀ r plan way, (runPlan p ch nd r plan way).2.1.length ≤ plan.length + r
  | 0, plan, way => Nat.le_refl _
  | r + 1, plan, way => by
    rw [runPlan]
    split
    · simp
    · have := runPlan_len p ch nd r (plan ++ [p (nd - (r + 1))]) (way + ch.getD (p (nd - (r + 1))).toNat 0)
      simp at this ⊢
      omega
theorem Fastest_run (s : Strm) (A O D C : Option Addr) (n c co nd cd nc cc : Nat) (bs : List Bnd) (l : List Wat) (ch : List Int) (w : World) (hss : SlAt w 0 5 Sec.cells A n c s.secs) (hs : SlAt w 0 2 Bnd.cells O n co bs) (hd : SlAt w 0 4 Wat.cells D nd cd l) (hcs : SlAt w 0 1 ivs C nc cc ch) (h1 : errBW s bs l = 0) (h3 : 1 ≤ l.length ∧ l.length ≤ 6 ∧ 1 ≤ ch.length ∧ ch.length ≤ 4) (h4 : okSpeeds ch = true) :
    Calls Tryz.prog 5 #[.agg #[.int .i64 s.head, .slice A n c, .int .i64 s.lane.lo, .int .i64 s.lane.hi, .int .i64 s.bend], .slice O n co, .slice D nd cd, .slice C nc cc] w (RetFast (fastR s bs l ch) w) := by
  have hv : Hid (fastR s bs l ch = if (runPlan (fun i => pickTo (keptN s bs l ch i) ch ch.length) ch l.length l.length [] 0).1 = true then ((runPlan (fun i => pickTo (keptN s bs l ch i) ch ch.length) ch l.length l.length [] 0).2.1, (runPlan (fun i => pickTo (keptN s bs l ch i) ch ch.length) ch l.length l.length [] 0).2.2, 0) else ([], 0, 4)) := by
    show _ = _
    unfold fastR; rw [if_neg (by simp [h1]), if_neg (by simpa using h3), if_neg (by simp [h4])]
  have h2 := Lib.hid (errBW_zero h1).1
  have hok := Lib.hid (errB_zero (errBW_zero h1).1)
  have hlw := Lib.hid (show l.all okWat = true by have := (errBW_zero h1).2; unfold okWats at this; simp only [Bool.and_eq_true] at this; exact this.2)
  replace h1 := Lib.hid h1
  have hld := hd.len
  have hlc := hcs.len
  rw [hld, hlc] at h3
  have hwL := fun W => within_any (nd : Int) 1 6 W
  have hwC := fun W => within_any (nc : Int) 1 4 W
  simp only [decide_eq_true (show 1 ≤ (nd : Int) ∧ (nd : Int) ≤ 6 by omega)] at hwL
  simp only [decide_eq_true (show 1 ≤ (nc : Int) ∧ (nc : Int) ≤ 4 by omega)] at hwC
  have hsp := fun W (hW : Below w.heap.size w W) => speeds_any C nc cc 0 ch W (hcs.below hW)
  simp only [h4] at hsp
  replace h4 := Lib.hid h4
  replace h3 := Lib.hid h3
  replace hld := Lib.hid hld
  replace hlc := Lib.hid hlc
  have hmk : ∀ (t : TypeId) (w : World), (Instr.makeMap t none).run Tryz.prog w = .ok (.map (some w.heap.size)) (w.alloc (.map #[] 0)) := fun t w => run_makeMap t w
  refine (callsIn_wide (n := 9)).1 ?_
  refine callsIn_of_wp_marks Tryz.func5 rfl trivial ?_ rfl
  simp only [Tryz.ntmps5, List.size_toArray, List.length_cons, List.length_nil, Nat.reduceAdd, Nat.reduceSub, Array.replicate_succ, Array.replicate_zero, List.push_toArray, List.append_toArray, List.nil_append, List.cons_append]
  refine wpIn_wide.2 ?_
  go_wp2_with fail
  refine (begun_any s A O D n c n co nd cd bs l _ (((((hss.alloc _).alloc _).alloc _).alloc _).alloc _) (((((hs.alloc _).alloc _).alloc _).alloc _).alloc _) (((((hd.alloc _).alloc _).alloc _).alloc _).alloc _)).mono ?_
  rintro e w1 ⟨r1, r2, hb1⟩
  have k6 : Blk w1 (w.heap.size + 1) 32 #[.slice D nd cd] := ((((Blk.newAt (by simp)).alloc _).alloc _).alloc _).below hb1
  have k7 : Blk w1 (w.heap.size + 1 + 1) 33 #[.slice C nc cc] := (((Blk.newAt (by simp)).alloc _).alloc _).below hb1
  have k8 : Blk w1 (w.heap.size + 1 + 1 + 1) 33 #[.slice none 0 0] := ((Blk.newAt (by simp)).alloc _).below hb1
  have k9 : Blk w1 (w.heap.size + 1 + 1 + 1 + 1) 3 #[.int .i64 0] := (Blk.newAt (by simp)).below hb1
  have b1 := ((((((Below.refl w.heap.size w).alloc (Nat.le_refl _) _).alloc (by simp) _).alloc (by simp; omega) _).alloc (by simp; omega) _).alloc (by simp; omega) _).trans (hb1.mono (by simp; omega))
  clear hb1
  rw [h1.out] at r1
  obtain rfl := r1 h2.out
  clear r1 r2
  replace k6 := k6.alloc (.cells #[.int .i64 s.head, .slice A n c, .int .i64 s.lane.lo, .int .i64 s.lane.hi, .int .i64 s.bend, .slice O n co] 81)
  replace k7 := k7.alloc (.cells #[.int .i64 s.head, .slice A n c, .int .i64 s.lane.lo, .int .i64 s.lane.hi, .int .i64 s.bend, .slice O n co] 81)
  replace k8 := k8.alloc (.cells #[.int .i64 s.head, .slice A n c, .int .i64 s.lane.lo, .int .i64 s.lane.hi, .int .i64 s.bend, .slice O n co] 81)
  replace k9 := k9.alloc (.cells #[.int .i64 s.head, .slice A n c, .int .i64 s.lane.lo, .int .i64 s.lane.hi, .int .i64 s.bend, .slice O n co] 81)
  have k11 := Blk.new w1 81 #[.int .i64 s.head, .slice A n c, .int .i64 s.lane.lo, .int .i64 s.lane.hi, .int .i64 s.bend, .slice O n co]
  replace b1 := b1.alloc b1.size (.cells #[.int .i64 s.head, .slice A n c, .int .i64 s.lane.lo, .int .i64 s.lane.hi, .int .i64 s.bend, .slice O n co] 81)
  obtain ⟨c6, f6, l6⟩ := k6.rules
  go_wp2_with fail
  refine (hwL _).mono ?_
  rintro e w' ⟨rfl, rfl⟩
  obtain ⟨c7, f7, l7⟩ := k7.rules
  go_wp2_with fail
  refine (hwC _).mono ?_
  rintro e w' ⟨rfl, rfl⟩
  go_wp2_with fail
  refine (hsp _ b1).mono ?_
  rintro e w2 ⟨rfl, hb2⟩
  clear c6 f6 l6 c7 f7 l7 hsp hwC hwL
  replace k6 := k6.below hb2
  replace k7 := k7.below hb2
  replace k8 := k8.below hb2
  replace k9 := k9.below hb2
  replace k11 := k11.below hb2
  replace b1 := b1.trans (hb2.mono b1.size)
  clear hb2
  have hkm := kmap_made w2
  have l6 := k6.lt
  have l9 := k9.lt
  have l11 := k11.lt
  replace k6 := (k6.alloc (.map #[] 0)).alloc (.cells #[.map (some w2.heap.size)] 85)
  replace k7 := (k7.alloc (.map #[] 0)).alloc (.cells #[.map (some w2.heap.size)] 85)
  replace k8 := (k8.alloc (.map #[] 0)).alloc (.cells #[.map (some w2.heap.size)] 85)
  replace k9 := (k9.alloc (.map #[] 0)).alloc (.cells #[.map (some w2.heap.size)] 85)
  replace k11 := (k11.alloc (.map #[] 0)).alloc (.cells #[.map (some w2.heap.size)] 85)
  have k12 : Blk ((w2.alloc (.map #[] 0)).alloc (.cells #[.map (some w2.heap.size)] 85)) (w2.heap.size + 1) 85 #[.map (some w2.heap.size)] := Blk.newAt (by simp)
  replace hkm := hkm.block (w' := (w2.alloc (.map #[] 0)).alloc (.cells #[.map (some w2.heap.size)] 85)) (Below.heap_alloc _ _ _ (by simp))
  replace b1 := (b1.alloc b1.size (.map #[] 0)).alloc (by have := b1.size; simp; omega) (.cells #[.map (some w2.heap.size)] 85)
  obtain ⟨c6, f6, -⟩ := k6.rules
  obtain ⟨c11, f11, -⟩ := k11.rules
  go_wp2_with fail
  refine (steps_any s A O D n c co n nd cd _).mono ?_
  rintro e w4 ⟨rfl, rfl⟩
  clear c6 f6 c11 f11
  go_wp2_with fail
  obtain ⟨W0, hW0⟩ : ∃ W0, W0 = ((((w2.alloc (.map #[] 0)).alloc (.cells #[.map (some w2.heap.size)] 85)).alloc (.cells #[.int .i64 s.head, .slice A n c, .int .i64 s.lane.lo, .int .i64 s.lane.hi, .int .i64 s.bend, .slice O n co] 81)).alloc (.cells #[.slice D nd cd] 32)) := ⟨_, rfl⟩
  rw [← hW0]
  have hI0 : FastI s A O D C n c co nd cd nc cc w1.heap.size (w2.heap.size + 1) w2.heap.size w W0 := by
    rw [hW0]
    have ba := b1.alloc b1.size (.cells #[.int .i64 s.head, .slice A n c, .int .i64 s.lane.lo, .int .i64 s.lane.hi, .int .i64 s.bend, .slice O n co] 81)
    exact ⟨(k6.alloc _).alloc _, (k7.alloc _).alloc _, (k8.alloc _).alloc _, (k9.alloc _).alloc _, (k11.alloc _).alloc _, (k12.alloc _).alloc _, ba.alloc ba.size _⟩
  have kt : Blk W0 (w2.heap.size + 1 + 1) 81 #[.int .i64 s.head, .slice A n c, .int .i64 s.lane.lo, .int .i64 s.lane.hi, .int .i64 s.bend, .slice O n co] := by rw [hW0]; exact (Blk.newAt (by simp)).alloc _
  have kl : Blk W0 (w2.heap.size + 1 + 1 + 1) 32 #[.slice D nd cd] := by rw [hW0]; exact Blk.newAt (by simp)
  have hm0 : KMap W0 w2.heap.size 0 (fmap (keptN s bs l ch) nc 0 0) := by
    rw [hW0, fmap_zero]
    exact hkm.block ((Below.heap_alloc _ _ _ (by rw [World.size_alloc, World.size_alloc, World.size_alloc]; omega)).trans (Below.heap_alloc _ _ _ (by rw [World.size_alloc, World.size_alloc]; omega)))
  have hsz : W0.heap.size = w2.heap.size + 4 := by rw [hW0]; simp
  have hLs : StepsL s bs l A O D n c co nd cd (w2.heap.size + 1 + 1) (w2.heap.size + 1 + 1 + 1) W0 := StepsL.base hI0.2.2.2.2.2.2 hss hs hd kt kl
  have hbm : w.heap.size + 1 + 1 + 1 + 1 < w2.heap.size := l9
  have hgt : w1.heap.size < w2.heap.size := l11
  clear hW0 kt kl k6 k7 k8 k9 k11 k12 hkm b1
  refine (wpIn_wide (n := 9)).1 ?_
  refine wp_range rfl (by decide) (gf := 52) (lb := #[.pointer (some ⟨w2.heap.size + 1 + 1, 0, none⟩), .pointer (some ⟨w2.heap.size + 1 + 1 + 1, 0, none⟩)]) rfl trivial eg_steps1
    (steps1_iter _ s bs l A O D n c co nd cd _ _ hok.out.1 hok.out.2 hlw.out) (fun k vs W ⟨O', co', e, _⟩ => by rw [e]; rfl)
    (fun k W => FastI s A O D C n c co nd cd nc cc w1.heap.size (w2.heap.size + 1) w2.heap.size w W ∧ ∃ m, m ≤ 4 * k ∧ KMap W w2.heap.size m (fmap (keptN s bs l ch) nc k 0))
    (fun _ _ => False) (fun k A B h hc => ⟨h.1.calm hc (by omega), h.2.choose, h.2.choose_spec.1, h.2.choose_spec.2.block (hc.1.block _ (by omega))⟩) (fun _ _ _ h _ => h) (fun A B h hc => h.calm hc) ⟨hI0, 0, by omega, hm0⟩ hLs ?round ?done ?stop
  case stop => exact fun _ _ _ _ h _ => h.elim
  case done =>
    rintro Dd W hD ⟨hI, m, -, hm⟩ hK
    have hst := @hstT Tryz.prog
    obtain ⟨k6, k7, k8, k9, -, k12, hb⟩ := hI
    have hrc : runPlan (fun i => pickTo (fmap (keptN s bs l ch) nc nd 0 i) ch ch.length) ch nd nd [] 0 = runPlan (fun i => pickTo (keptN s bs l ch i) ch ch.length) ch nd nd [] 0 :=
      runPlan_congr ch nd (fun i hi => pickTo_congr ch _ (fun q hq => by rw [hlc.out] at hq; simp [fmap, hi, hq])) nd [] 0 (Nat.le_refl _)
    have hlen := runPlan_len (fun i => pickTo (keptN s bs l ch i) ch ch.length) ch nd nd [] 0
    rw [hld.out] at hv
    obtain ⟨⟨ok, plan, way⟩, hRP⟩ : ∃ x, runPlan (fun i => pickTo (keptN s bs l ch i) ch ch.length) ch nd nd [] 0 = x := ⟨_, rfl⟩
    rw [hRP] at hrc hlen hv
    have hch := choose_any w w.heap.size rfl ch (fmap (keptN s bs l ch) nc nd 0) D C nd cd nc cc w2.heap.size m (w.heap.size + 1) (w.heap.size + 1 + 1) (w2.heap.size + 1) (w.heap.size + 1 + 1 + 1) (w.heap.size + 1 + 1 + 1 + 1) W.heap.size
      (by have := hb.size; omega) (by omega) (by have := h3.out; omega) (by have := h3.out; omega) h4.out hcs (by omega) (by have := hb.size; have := k12.lt; omega) nd 0 (.slice none 0 0) [] 0 (W.alloc (.cells #[.func (.func 25) #[] #[.pointer (some ⟨w.heap.size + 1, 0, none⟩), .pointer (some ⟨w.heap.size + 1 + 1, 0, none⟩), .pointer (some ⟨w2.heap.size + 1, 0, none⟩), .pointer (some ⟨w.heap.size + 1 + 1 + 1, 0, none⟩), .pointer (some ⟨w.heap.size + 1 + 1 + 1 + 1, 0, none⟩), .pointer (some ⟨W.heap.size, 0, none⟩)]] 93)) (by omega) rfl (by omega) (by omega) (fun _ _ => by simp [Value.ownBlock])
      (k6.alloc _) (k7.alloc _) (k12.alloc _) (k8.alloc _) (k9.alloc _) (Blk.new W _ _) (hb.alloc hb.size _) (hm.block (Below.heap_alloc _ _ _ hm.lt)) ⟨rfl, .inl ⟨rfl, rfl⟩⟩
    rw [hrc] at hch
    have hKa : (W.alloc (.cells #[.func (.func 25) #[] #[.pointer (some ⟨w.heap.size + 1, 0, none⟩), .pointer (some ⟨w.heap.size + 1 + 1, 0, none⟩), .pointer (some ⟨w2.heap.size + 1, 0, none⟩), .pointer (some ⟨w.heap.size + 1 + 1 + 1, 0, none⟩), .pointer (some ⟨w.heap.size + 1 + 1 + 1 + 1, 0, none⟩), .pointer (some ⟨W.heap.size, 0, none⟩)]] 93)).heap[Dd]? = some (.deferred (some [])) := (Below.heap_alloc _ _ _ (Array.getElem?_eq_some_iff.1 hK).1).trans hK
    have lDd := (Array.getElem?_eq_some_iff.1 hKa).1
    replace hch := Lib.hid hch
    replace hRP := Lib.hid hRP
    replace hrc := Lib.hid hrc
    replace hv := Lib.hid hv
    replace hlen := Lib.hid hlen
    have hbA := hb.alloc hb.size (.cells #[.func (.func 25) #[] #[.pointer (some ⟨w.heap.size + 1, 0, none⟩), .pointer (some ⟨w.heap.size + 1 + 1, 0, none⟩), .pointer (some ⟨w2.heap.size + 1, 0, none⟩), .pointer (some ⟨w.heap.size + 1 + 1 + 1, 0, none⟩), .pointer (some ⟨w.heap.size + 1 + 1 + 1 + 1, 0, none⟩), .pointer (some ⟨W.heap.size, 0, none⟩)]] 93)
    clear k6 k7 k12 hm hb
    go_wp2_with fail
    refine hch.out.mono ?_
    rintro e w6 ⟨v', rfl, hb6, k8', ⟨n', hown'⟩, k9', hkp⟩
    clear hch
    replace hb6 := hbA.trans hb6
    have hK6 : w6.heap[Dd]? = some (.deferred (some [])) := (hkp Dd lDd (by omega) (by omega) (by simp [Value.ownBlock])).trans hKa
    clear hkp hKa hK k8 k9
    cases ok with
    | false =>
      have k8z := (k8'.set_ 0 (.slice none 0 0)).far (p := ⟨w.heap.size + 1 + 1 + 1 + 1, 0, none⟩) (by dsimp only; omega) (.int .i64 0)
      have k9z := (k9'.far (p := ⟨w.heap.size + 1 + 1 + 1, 0, none⟩) (by dsimp only; omega) (.slice none 0 0)).set_ 0 (.int .i64 0)
      have bz := (hb6.setCell (p := ⟨w.heap.size + 1 + 1 + 1, 0, none⟩) (by dsimp only; omega) (.slice none 0 0)).setCell (p := ⟨w.heap.size + 1 + 1 + 1 + 1, 0, none⟩) (by dsimp only; omega) (.int .i64 0)
      have hKz : ((w6.setCell ⟨w.heap.size + 1 + 1 + 1, 0, none⟩ (.slice none 0 0)).setCell ⟨w.heap.size + 1 + 1 + 1 + 1, 0, none⟩ (.int .i64 0)).heap[Dd]? = some (.deferred (some [])) := (Below.heap_setCell _ _ _ _ (by dsimp only; omega)).trans ((Below.heap_setCell _ _ _ _ (by dsimp only; omega)).trans hK6)
      obtain ⟨c8, f8, l8⟩ := k8'.rules
      obtain ⟨c9, f9, l9⟩ := k9'.rules
      go_wp2_with fail
      clear c8 f8 l8 c9 f9 l9
      refine ⟨by simp, .inl ⟨_, _, rfl, run_takeDeferred hKz, ?_⟩⟩
      have hcp := calm_put (B := w.heap.size) (.deferred none) hKz rfl (by omega)
      obtain ⟨c8, f8, l8⟩ := (calm_blk hcp k8z).rules
      obtain ⟨c9, f9, l9⟩ := (calm_blk hcp k9z).rules
      rw [hv.out]
      exact ⟨.tuple #[.slice none 0 0, .int .i64 0, .int .i64 4], by simp [results, Tryz.results5, go_sem, c8, c9], none, 0, 0, rfl, SlAt.nil _ _ _ _, calm_below hcp bz (Nat.le_refl _)⟩
    | true =>
      have hn' : plan.length = n' := by have := hown'.1; simpa using this
      obtain ⟨P, pc, rfl, hsl⟩ := SlAt.of_own (enc := ivs) hown' (by have a1 := hlen.out; have a2 := h3.out; have a3 : ([] : List Int).length = 0 := rfl; omega) plan (map_ivs plan) (fun _ => rfl) hn'
      clear hown'
      go_wp2_with fail
      refine wp_held_np (fun w' : World => (∀ j, w'.cell? ⟨w.heap.size + 1 + 1 + 1, j, none⟩ = #[Value.slice P n' pc][j]?) ∧ (∀ j, w'.cell? ⟨w.heap.size + 1 + 1 + 1 + 1, j, none⟩ = #[Value.int .i64 way][j]?)) (by kernel_rfl) ?_
      have hS : (fun w' : World => (∀ j, w'.cell? ⟨w.heap.size + 1 + 1 + 1, j, none⟩ = #[Value.slice P n' pc][j]?) ∧ (∀ j, w'.cell? ⟨w.heap.size + 1 + 1 + 1 + 1, j, none⟩ = #[Value.int .i64 way][j]?)) w6.drew := ⟨k8'.cell, k9'.cell⟩
      replace k8' := k8'.drew
      replace k9' := k9'.drew
      replace hb6 := hb6.drew
      replace hsl := hsl.drew
      replace hK6 : w6.drew.heap[Dd]? = some (.deferred (some [])) := hK6
      generalize w6.drew = w7 at *
      refine hTk 0 84 ?_
      refine hTk 1 85 ?_
      have k8z := k8'.set_ 0 (.slice P n' pc)
      have k9z := k9'.far (p := ⟨w.heap.size + 1 + 1 + 1, 0, none⟩) (by dsimp only; omega) (.slice P n' pc)
      have bz := hb6.setCell (p := ⟨w.heap.size + 1 + 1 + 1, 0, none⟩) (by dsimp only; omega) (.slice P n' pc)
      have hKz : (w7.setCell ⟨w.heap.size + 1 + 1 + 1, 0, none⟩ (.slice P n' pc)).heap[Dd]? = some (.deferred (some [])) := (Below.heap_setCell _ _ _ _ (by dsimp only; omega)).trans hK6
      obtain ⟨c8, f8, l8⟩ := k8'.rules
      refine hOne 2 fun K hK => ?_
      go_simp
      refine hK _ _ ⟨k8z.cell, k9z.cell⟩ ?_
      clear hK K c8 f8 l8 hS
      have hslz := sl_reset hsl (p := ⟨w.heap.size + 1 + 1 + 1, 0, none⟩) (u := .slice P n' pc) (k8'.cell 0)
      clear k8' k9' hb6 hK6 hsl
      generalize w7.setCell ⟨w.heap.size + 1 + 1 + 1, 0, none⟩ (.slice P n' pc) = w8 at *
      try simp only [Act.put, sA, sZ, sS]
      have k8y := k8z.far (p := ⟨w.heap.size + 1 + 1 + 1 + 1, 0, none⟩) (by dsimp only; omega) (.int .i64 way)
      have k9y := k9z.set_ 0 (.int .i64 way)
      have by_ := bz.setCell (p := ⟨w.heap.size + 1 + 1 + 1 + 1, 0, none⟩) (by dsimp only; omega) (.int .i64 way)
      have hKy : (w8.setCell ⟨w.heap.size + 1 + 1 + 1 + 1, 0, none⟩ (.int .i64 way)).heap[Dd]? = some (.deferred (some [])) := (Below.heap_setCell _ _ _ _ (by dsimp only; omega)).trans hKz
      have hsly := sl_reset hslz (p := ⟨w.heap.size + 1 + 1 + 1 + 1, 0, none⟩) (u := .int .i64 way) (k9z.cell 0)
      obtain ⟨c9, f9, l9⟩ := k9z.rules
      refine hOne 3 fun K hK => ?_
      go_simp
      refine hK _ _ ⟨k8y.cell, k9y.cell⟩ ?_
      clear hK K c9 f9 l9 k8z k9z bz hKz hslz
      generalize w8.setCell ⟨w.heap.size + 1 + 1 + 1 + 1, 0, none⟩ (.int .i64 way) = w9 at *
      have hS : (fun w' : World => (∀ j, w'.cell? ⟨w.heap.size + 1 + 1 + 1, j, none⟩ = #[Value.slice P n' pc][j]?) ∧ (∀ j, w'.cell? ⟨w.heap.size + 1 + 1 + 1 + 1, j, none⟩ = #[Value.int .i64 way][j]?)) w9 := ⟨k8y.cell, k9y.cell⟩
      try simp only [Act.put, sA, sZ, sS]
      refine hTk 4 10 ?_
      refine wpAnyH_done (by kernel_rfl) (noPanic_normal ?_) _
      go_wp2_with fail
      refine ⟨by simp, .inl ⟨_, _, rfl, run_takeDeferred hKy, ?_⟩⟩
      have hcp := calm_put (B := w.heap.size) (.deferred none) hKy rfl (by omega)
      obtain ⟨c8, f8, l8⟩ := (calm_blk hcp k8y).rules
      obtain ⟨c9, f9, l9⟩ := (calm_blk hcp k9y).rules
      rw [hv.out]
      exact ⟨.tuple #[.slice P n' pc, .int .i64 way, .int .i64 0], by simp [results, Tryz.results5, go_sem, c8, c9], P, n', pc, rfl, calm_sl hcp hsly, calm_below hcp by_ (Nat.le_refl _)⟩
  case round =>
    rintro lr k vs W hW hk ⟨hI, m, hmk4, hm⟩ hL ⟨O', co', rfl, hG⟩
    gi_wp2_with fail
    refine ⟨Below.refl _ _, fun W2 hc => ?_⟩
    replace hI := hI.calm hc (by omega)
    replace hL := hL.calm hc
    replace hG := calm_sl hc hG
    replace hm := hm.block (hc.1.block _ (by omega))
    clear hc hI0 hLs hm0
    have hbn : Hid (bentN s bs l k = bentS s (encAt s bs l (k + 1))) := rfl
    have hek := Lib.hid (encAt_ok hok.out.1 hok.out.2 hlw.out (k + 1))
    obtain ⟨wt, hwt⟩ := some_of_lt hld.out hk
    have hwtd := wat_getD hwt
    have hwk := Lib.hid (hwtd ▸ (okWat_get hlw.out k).2)
    have hcl := Lib.hid hcs.len
    have hc7 := hI.2.1
    have hn4 := h3.out
    obtain ⟨c7, f7, l7⟩ := hc7.rules
    have hn0 := NC.refl W0.heap.size W2
    gi_wp2_with fail
    clear c7 f7 l7 hc7
    gi_loopw [52] (fun j wr => ∃ q : Nat, j = .int .i64 q ∧ q ≤ nc ∧ FastI s A O D C n c co nd cd nc cc w1.heap.size (w2.heap.size + 1) w2.heap.size w wr ∧ (∃ m, m ≤ 4 * k + q ∧ KMap wr w2.heap.size m (fmap (keptN s bs l ch) nc k q)) ∧ StepsL s bs l A O D n c co nd cd (w2.heap.size + 1 + 1) (w2.heap.size + 1 + 1 + 1) wr ∧ SlAt wr (w2.heap.size + 1 + 1 + 1 + 1) 2 Bnd.cells O' n co' (encAt s bs l (k + 1)) ∧ NC W0.heap.size W2 wr) (fun j wr => nc - (intOf j).toNat)
    case atStart => exact ⟨0, rfl, Nat.zero_le _, hI, ⟨m, by omega, hm⟩, hL, hG, hn0⟩
    case round =>
      clear hI hm hmk4 m hL hG hn0
      obtain ⟨q, rfl, hq, hI, ⟨m, hmk4, hm⟩, hL, hG, hn⟩ := hrel
      by_cases hlt : q < nc
      · obtain ⟨x, hx⟩ := some_of_lt hcl.out hlt
        have hxd : ch.getD q 0 = x := by rw [List.getD_eq_getElem?_getD, hx]; rfl
        obtain ⟨bc, oc, hC, -, hbcl, e0⟩ := hcs.int hx
        replace e0 := (hI.2.2.2.2.2.2.cell (by dsimp only; omega)).trans e0
        obtain ⟨bd, od, hD, -, lbd, -, -, e2, e3⟩ := hd.wat hwt
        have hxk := Lib.hid (List.all_eq_true.1 h4.out x (List.mem_of_getElem? hx))
        have hkn : Hid (keptN s bs l ch k q = (!bentN s bs l k && !pulledS s (encAt s bs l (k + 1)) x wt.alo)) := by show keptN s bs l ch k q = _; unfold keptN; rw [hxd, hwtd]
        have hstep := Lib.hid (fmap_step (keptN s bs l ch) nc k q)
        replace hx := Lib.hid hx
        clear hxd
        have hq0 : (0 : Int) ≤ (q : Int) := by omega
        have hq1 : (q : Int) < (nc : Int) := by omega
        have hk0 : (0 : Int) ≤ (k : Int) := by omega
        have hk1 : (k : Int) < (nd : Int) := by omega
        subst hC
        subst hD
        obtain ⟨k6, k7, k8, k9, k11, k12, hb⟩ := hI
        gi_wp2_with fail
        refine wpIn_held_round (fun w' : World => (∀ j, w'.cell? ⟨w2.heap.size + 1, j, none⟩ = #[Value.map (some w2.heap.size)][j]?) ∧ (∀ j, w'.cell? ⟨w1.heap.size, j, none⟩ = #[Value.int .i64 s.head, .slice A n c, .int .i64 s.lane.lo, .int .i64 s.lane.hi, .int .i64 s.bend, .slice O n co][j]?) ∧ (∀ j, w'.cell? ⟨w.heap.size + 1, j, none⟩ = #[Value.slice (some ⟨bd, od, none⟩) nd cd][j]?) ∧ w'.cell? ⟨bd, od + k * 4 + 2, none⟩ = some (.int .i64 wt.alo.lo) ∧ w'.cell? ⟨bd, od + k * 4 + 3, none⟩ = some (.int .i64 wt.alo.hi)) (by kernel_rfl) (by kernel_rfl) (by rintro ⟨_, _, h⟩; exact h) ?_
        have hS : (fun w' : World => (∀ j, w'.cell? ⟨w2.heap.size + 1, j, none⟩ = #[Value.map (some w2.heap.size)][j]?) ∧ (∀ j, w'.cell? ⟨w1.heap.size, j, none⟩ = #[Value.int .i64 s.head, .slice A n c, .int .i64 s.lane.lo, .int .i64 s.lane.hi, .int .i64 s.bend, .slice O n co][j]?) ∧ (∀ j, w'.cell? ⟨w.heap.size + 1, j, none⟩ = #[Value.slice (some ⟨bd, od, none⟩) nd cd][j]?) ∧ w'.cell? ⟨bd, od + k * 4 + 2, none⟩ = some (.int .i64 wt.alo.lo) ∧ w'.cell? ⟨bd, od + k * 4 + 3, none⟩ = some (.int .i64 wt.alo.hi)) wr.drew := ⟨k12.cell, k11.cell, k6.cell, (hb.cell (p := ⟨bd, od + k * 4 + 2, none⟩) lbd).trans e2, (hb.cell (p := ⟨bd, od + k * 4 + 3, none⟩) lbd).trans e3⟩
        replace hI : FastI s A O (some ⟨bd, od, none⟩) (some ⟨bc, oc, none⟩) n c co nd cd nc cc w1.heap.size (w2.heap.size + 1) w2.heap.size w wr.drew := ⟨k6, k7, k8, k9, k11, k12, hb.drew⟩
        clear k6 k7 k8 k9 k11 k12 hb
        replace hL : StepsL s bs l A O (some ⟨bd, od, none⟩) n c co nd cd (w2.heap.size + 1 + 1) (w2.heap.size + 1 + 1 + 1) wr.drew := hL
        replace hG := hG.drew
        replace hm : KMap wr.drew _ _ _ := hm
        replace hn := hn.trans (nc_drew wr)
        generalize wr.drew = W5 at *
        refine hTk 0 57 ?_
        refine hTk 1 58 ?_
        refine hTk 2 59 ?_
        refine hTk 3 60 ?_
        refine hTk 4 61 ?_
        refine hTk 5 62 ?_
        refine hTk 6 63 ?_
        have hcb := bent_any s A O' n c n co' _ (encAt s bs l (k + 1)) W5 (ok_head hok.out.1) (okOffs_all hek.out) hG
        obtain ⟨bb, hbb⟩ : ∃ bb, bentS s (encAt s bs l (k + 1)) = bb := ⟨_, rfl⟩
        rw [hbb] at hcb
        replace hbb := hbb
        refine hOne 7 fun K hK => ?_
        go_simp
        refine hcb.mono ?_
        rintro e w5 ⟨rfl, hb5⟩
        clear hcb hS
        replace hI := hI.below hb5
        replace hL := hL.below hb5
        replace hG := hG.below hb5
        replace hm := hm.below hb5
        replace hn := hn.trans (nc_of_below hb5)
        clear hb5
        have hS : (fun w' : World => (∀ j, w'.cell? ⟨w2.heap.size + 1, j, none⟩ = #[Value.map (some w2.heap.size)][j]?) ∧ (∀ j, w'.cell? ⟨w1.heap.size, j, none⟩ = #[Value.int .i64 s.head, .slice A n c, .int .i64 s.lane.lo, .int .i64 s.lane.hi, .int .i64 s.bend, .slice O n co][j]?) ∧ (∀ j, w'.cell? ⟨w.heap.size + 1, j, none⟩ = #[Value.slice (some ⟨bd, od, none⟩) nd cd][j]?) ∧ w'.cell? ⟨bd, od + k * 4 + 2, none⟩ = some (.int .i64 wt.alo.lo) ∧ w'.cell? ⟨bd, od + k * 4 + 3, none⟩ = some (.int .i64 wt.alo.hi)) w5 := ⟨hI.2.2.2.2.2.1.cell, hI.2.2.2.2.1.cell, hI.1.cell, (hI.2.2.2.2.2.2.cell (p := ⟨bd, od + k * 4 + 2, none⟩) lbd).trans e2, (hI.2.2.2.2.2.2.cell (p := ⟨bd, od + k * 4 + 3, none⟩) lbd).trans e3⟩
        refine hK _ _ hS ?_
        clear hK K
        try simp only [Act.put, sA, sZ, sS]
        cases bb with
        | true =>
          refine hTk 8 65 ?_
          refine hTk 9 66 ?_
          refine held_take (i := 10) (v := undef) 67 rfl rfl (by kernel_rfl) (by kernel_rfl) (by kernel_rfl) (fun _ _ _ h => h) (Or.inr ⟨by rfl, rfl⟩) hS ?_
          try simp only [Act.put, sA, sZ, sS]
          refine held_take (i := 11) (v := undef) 68 rfl rfl (by kernel_rfl) (by kernel_rfl) (by kernel_rfl) (fun _ _ _ h => h) (Or.inr ⟨by rfl, rfl⟩) hS ?_
          try simp only [Act.put, sA, sZ, sS]
          refine held_take (i := 12) (v := undef) 69 rfl rfl (by kernel_rfl) (by kernel_rfl) (by kernel_rfl) (fun _ _ _ h => h) (Or.inr ⟨by rfl, rfl⟩) hS ?_
          try simp only [Act.put, sA, sZ, sS]
          refine held_take (i := 13) (v := undef) 70 rfl rfl (by kernel_rfl) (by kernel_rfl) (by kernel_rfl) (fun _ _ _ h => h) (Or.inr ⟨by rfl, rfl⟩) hS ?_
          try simp only [Act.put, sA, sZ, sS]
          refine held_take (i := 14) (v := undef) 71 rfl rfl (by kernel_rfl) (by kernel_rfl) (by kernel_rfl) (fun _ _ _ h => h) (Or.inr ⟨by rfl, rfl⟩) hS ?_
          try simp only [Act.put, sA, sZ, sS]
          refine held_take (i := 15) (v := undef) 72 rfl rfl (by kernel_rfl) (by kernel_rfl) (by kernel_rfl) (fun _ _ _ h => h) (Or.inr ⟨by rfl, rfl⟩) hS ?_
          try simp only [Act.put, sA, sZ, sS]
          refine held_take (i := 16) (v := undef) 73 rfl rfl (by kernel_rfl) (by kernel_rfl) (by kernel_rfl) (fun _ _ _ h => h) (Or.inr ⟨by rfl, rfl⟩) hS ?_
          try simp only [Act.put, sA, sZ, sS]
          refine held_take (i := 17) (v := undef) 74 rfl rfl (by kernel_rfl) (by kernel_rfl) (by kernel_rfl) (fun _ _ _ h => h) (Or.inr ⟨by rfl, rfl⟩) hS ?_
          try simp only [Act.put, sA, sZ, sS]
          refine held_take (i := 18) (v := undef) 75 rfl rfl (by kernel_rfl) (by kernel_rfl) (by kernel_rfl) (fun _ _ _ h => h) (Or.inr ⟨by rfl, rfl⟩) hS ?_
          try simp only [Act.put, sA, sZ, sS]
          refine held_take (i := 19) (v := undef) 76 rfl rfl (by kernel_rfl) (by kernel_rfl) (by kernel_rfl) (fun _ _ _ h => h) (Or.inr ⟨by rfl, rfl⟩) hS ?_
          try simp only [Act.put, sA, sZ, sS]
          refine held_take (i := 20) (v := undef) 77 rfl rfl (by kernel_rfl) (by kernel_rfl) (by kernel_rfl) (fun _ _ _ h => h) (Or.inr ⟨by rfl, rfl⟩) hS ?_
          try simp only [Act.put, sA, sZ, sS]
          refine hTk 21 78 ?_
          obtain ⟨w9, hrun, hm9, hg9⟩ := hm.upd (i := k) (k := q) false (by omega) (by omega) (by unfold maxLen; omega)
          have hI9 := hI.grown hg9 hbm (by omega) (by omega)
          have hL9 : StepsL s bs l A O (some ⟨bd, od, none⟩) n c co nd cd (w2.heap.size + 1 + 1) (w2.heap.size + 1 + 1 + 1) w9 := StepsL.base hI9.2.2.2.2.2.2 hss hs hd (hL.1.grown hg9 (by simp; omega)) (hL.2.1.grown hg9 (by simp; omega))
          have hG9 : SlAt w9 (w2.heap.size + 1 + 1 + 1 + 1) 2 Bnd.cells O' n co' (encAt s bs l (k + 1)) := hG.keep hg9.size (fun p hp hlt2 => World.cell?_of_block (hg9.block p.block hlt2 (by simp; omega)))
          have hn9 := hn.trans (nc_grown hg9 (by omega))
          refine hOne 22 fun K hK => ?_
          go_simp
          refine hK _ _ ⟨hI9.2.2.2.2.2.1.cell, hI9.2.2.2.2.1.cell, hI9.1.cell, (hI9.2.2.2.2.2.2.cell (p := ⟨bd, od + k * 4 + 2, none⟩) lbd).trans e2, (hI9.2.2.2.2.2.2.cell (p := ⟨bd, od + k * 4 + 3, none⟩) lbd).trans e3⟩ ?_
          clear hK K hrun hS hI hL hG hm hn
          refine wpAnyH_done (by kernel_rfl) ?_ _
          gi_wp2_with fail
          go_roundw
          case rel =>
            refine ⟨q + 1, by go_num, by omega, hI9, ⟨m + 1, by omega, ?_⟩, hL9, hG9, hn9⟩
            rw [← hstep.out, hkn.out, hbn.out, hbb]
            exact hm9
          case measure => simp [intOf]; omega
        | false =>
          refine hTk 8 65 ?_
          refine hTk 9 66 ?_
          refine hTk 10 67 ?_
          refine hTk 11 68 ?_
          refine hTk 12 69 ?_
          refine hTk 13 70 ?_
          refine hTk 14 71 ?_
          refine hTk 15 72 ?_
          refine hTk 16 73 ?_
          refine hTk 17 74 ?_
          refine hTk 18 75 ?_
          have hcp := pulled_any s A O' n c co' 0 _ (encAt s bs l (k + 1)) x wt.alo w5 hok.out.1 hek.out hxk.out hwk.out hL.2.2.1 hG
          obtain ⟨pb, hpb⟩ : ∃ pb, pulledS s (encAt s bs l (k + 1)) x wt.alo = pb := ⟨_, rfl⟩
          rw [hpb] at hcp
          refine hOne 19 fun K hK => ?_
          go_simp
          refine hcp.mono ?_
          rintro e w6 ⟨rfl, hb6⟩
          clear hcp hS
          replace hI := hI.below hb6
          replace hL := hL.below hb6
          replace hG := hG.below hb6
          replace hm := hm.below hb6
          replace hn := hn.trans (nc_of_below hb6)
          clear hb6
          have hS : (fun w' : World => (∀ j, w'.cell? ⟨w2.heap.size + 1, j, none⟩ = #[Value.map (some w2.heap.size)][j]?) ∧ (∀ j, w'.cell? ⟨w1.heap.size, j, none⟩ = #[Value.int .i64 s.head, .slice A n c, .int .i64 s.lane.lo, .int .i64 s.lane.hi, .int .i64 s.bend, .slice O n co][j]?) ∧ (∀ j, w'.cell? ⟨w.heap.size + 1, j, none⟩ = #[Value.slice (some ⟨bd, od, none⟩) nd cd][j]?) ∧ w'.cell? ⟨bd, od + k * 4 + 2, none⟩ = some (.int .i64 wt.alo.lo) ∧ w'.cell? ⟨bd, od + k * 4 + 3, none⟩ = some (.int .i64 wt.alo.hi)) w6 := ⟨hI.2.2.2.2.2.1.cell, hI.2.2.2.2.1.cell, hI.1.cell, (hI.2.2.2.2.2.2.cell (p := ⟨bd, od + k * 4 + 2, none⟩) lbd).trans e2, (hI.2.2.2.2.2.2.cell (p := ⟨bd, od + k * 4 + 3, none⟩) lbd).trans e3⟩
          refine hK _ _ hS ?_
          clear hK K
          try simp only [Act.put, sA, sZ, sS]
          refine hTk 20 77 ?_
          refine hTk 21 78 ?_
          cases pb with
          | true =>
            obtain ⟨w9, hrun, hm9, hg9⟩ := hm.upd (i := k) (k := q) false (by omega) (by omega) (by unfold maxLen; omega)
            have hI9 := hI.grown hg9 hbm (by omega) (by omega)
            have hL9 : StepsL s bs l A O (some ⟨bd, od, none⟩) n c co nd cd (w2.heap.size + 1 + 1) (w2.heap.size + 1 + 1 + 1) w9 := StepsL.base hI9.2.2.2.2.2.2 hss hs hd (hL.1.grown hg9 (by simp; omega)) (hL.2.1.grown hg9 (by simp; omega))
            have hG9 : SlAt w9 (w2.heap.size + 1 + 1 + 1 + 1) 2 Bnd.cells O' n co' (encAt s bs l (k + 1)) := hG.keep hg9.size (fun p hp hlt2 => World.cell?_of_block (hg9.block p.block hlt2 (by simp; omega)))
            have hn9 := hn.trans (nc_grown hg9 (by omega))
            refine hOne 22 fun K hK => ?_
            go_simp
            refine hK _ _ ⟨hI9.2.2.2.2.2.1.cell, hI9.2.2.2.2.1.cell, hI9.1.cell, (hI9.2.2.2.2.2.2.cell (p := ⟨bd, od + k * 4 + 2, none⟩) lbd).trans e2, (hI9.2.2.2.2.2.2.cell (p := ⟨bd, od + k * 4 + 3, none⟩) lbd).trans e3⟩ ?_
            clear hK K hrun hS hI hL hG hm hn
            refine wpAnyH_done (by kernel_rfl) ?_ _
            gi_wp2_with fail
            go_roundw
            case rel =>
              refine ⟨q + 1, by go_num, by omega, hI9, ⟨m + 1, by omega, ?_⟩, hL9, hG9, hn9⟩
              rw [← hstep.out, hkn.out, hbn.out, hbb]
              rw [hpb]; exact hm9
            case measure => simp [intOf]; omega
          | false =>
            obtain ⟨w9, hrun, hm9, hg9⟩ := hm.upd (i := k) (k := q) true (by omega) (by omega) (by unfold maxLen; omega)
            have hI9 := hI.grown hg9 hbm (by omega) (by omega)
            have hL9 : StepsL s bs l A O (some ⟨bd, od, none⟩) n c co nd cd (w2.heap.size + 1 + 1) (w2.heap.size + 1 + 1 + 1) w9 := StepsL.base hI9.2.2.2.2.2.2 hss hs hd (hL.1.grown hg9 (by simp; omega)) (hL.2.1.grown hg9 (by simp; omega))
            have hG9 : SlAt w9 (w2.heap.size + 1 + 1 + 1 + 1) 2 Bnd.cells O' n co' (encAt s bs l (k + 1)) := hG.keep hg9.size (fun p hp hlt2 => World.cell?_of_block (hg9.block p.block hlt2 (by simp; omega)))
            have hn9 := hn.trans (nc_grown hg9 (by omega))
            refine hOne 22 fun K hK => ?_
            go_simp
            refine hK _ _ ⟨hI9.2.2.2.2.2.1.cell, hI9.2.2.2.2.1.cell, hI9.1.cell, (hI9.2.2.2.2.2.2.cell (p := ⟨bd, od + k * 4 + 2, none⟩) lbd).trans e2, (hI9.2.2.2.2.2.2.cell (p := ⟨bd, od + k * 4 + 3, none⟩) lbd).trans e3⟩ ?_
            clear hK K hrun hS hI hL hG hm hn
            refine wpAnyH_done (by kernel_rfl) ?_ _
            gi_wp2_with fail
            go_roundw
            case rel =>
              refine ⟨q + 1, by go_num, by omega, hI9, ⟨m + 1, by omega, ?_⟩, hL9, hG9, hn9⟩
              rw [← hstep.out, hkn.out, hbn.out, hbb]
              rw [hpb]; exact hm9
            case measure => simp [intOf]; omega
      · obtain rfl : q = nc := by omega
        gi_wp2_with fail
        exact ⟨hn, ⟨hI, m, by omega, by rw [← fmap_next]; exact hm⟩, hL⟩
end Go.Proofs.YtcmbmmpihiekhaaGreat
