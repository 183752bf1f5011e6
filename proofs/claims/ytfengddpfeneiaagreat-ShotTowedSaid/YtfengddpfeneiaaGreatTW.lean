/-
  Walks, first part: small functions of tow, and slices.IndexFunc and ContainsFunc at three element types.
  Walks, second part: what checks a streamer, bounds of offsets, waters and speeds.
  Walks, third part: a step of offsets (tow.Step) and what it calls.
  Walks, fourth part: each at bounds; the bounds after a step, and of bends.
  Walks, fifth part: the bounds after a step.
  Walks, sixth part: pulls.
  Walks, seventh part: the bounds step by step, and in which steps a streamer may be beyond its limits.
  Walks, eighth part: strain, Watch, Keeps.
  A map from pairs of numbers to truth values that the call made itself.
  Walks, ninth part: begun, watched, keeps, Watch, Keeps.
  Walks, tenth part: keeps, Watch, Keeps.
  Walks, eleventh part: Fastest.
  Walks, twelfth part: Fastest.
  Walks, thirteenth part: Fastest, where plans are looked for.
  Two lists of numbers alike.
  The chapter's own streamer and bounds.
-/
import Derived.Test.YtfengddpfeneiaaGreatI1
import Derived.Test.YtfengddpfeneiaaGreatBase
import Derived.Shelf.Abstract
import Derived.Deep.QuietTactic
import Derived.BigQuiet
import Derived.Deep.RegionHeld3
import Derived.StillTailTactics
import Derived.BigRegionIn
import Derived.Maps.Own
import Derived.Maps.Views
import Derived.WideKeyPair
import Derived.Carry
import Derived.Deep.RegionWith
import Derived.Deep.AppendLies
import Derived.WalkMore
namespace Go.Proofs.YtfengddpfeneiaaGreat
open Go.RowKit Go.Shelf

set_option maxHeartbeats 1000000 in
theorem index_bnd (p : Bnd → Bool) (A : Option Addr) (n c B g : Nat) (lb : Array Value) (eg : ∀ args w, (callFunc g args).run Tryz.prog w = .ok (.enter g args) w) (xs : List Bnd) (w : World)
    (hp : PredB g lb (fun b => Value.agg #[.int .i64 b.lo, .int .i64 b.hi]) p w) (hs : SlAt w B 2 Bnd.cells A n c xs) :
    Calls Tryz.prog 152 #[.slice A n c, .func (.func g) #[] lb] w fun e w' => e = .returned (.int .i64 (idxf p xs 0)) ∧ Below w.heap.size w w' := by
  have hn := hs.le
  have hl := Lib.hid hs.len
  go_enter Tryz.func152, Tryz.ntmps152
  go_wp2
  go_loopw [8] (fun i wr => ∃ k : Nat, i = .int .i64 k ∧ k ≤ n ∧ noneTo p xs k ∧ Below w.heap.size w wr) (fun i wr => n - (intOf i).toNat)
  case atStart => exact ⟨0, rfl, Nat.zero_le _, by simp [noneTo], Below.refl _ _⟩
  case round =>
    obtain ⟨k, rfl, hk, hno, hb⟩ := hrel
    by_cases hlt : k < n
    · obtain ⟨x, hx⟩ := some_of_lt hl.out hlt
      have hcall := hp wr x hb
      obtain ⟨b, off, rfl, -, hbl, c0, c1⟩ := (hs.keep hb.size (fun _ _ h => hb.cell h)).bnd hx
      replace hx := Lib.hid hx
      clear hs hp
      cases hq : p x with
      | true =>
        rw [hq] at hcall
        replace hq := Lib.hid hq
        go_wp2_with (go_at_fn g; refine hcall.mono ?_; rintro e w' ⟨rfl, hb'⟩)
        go_ret
        exact ⟨ret_int (by rw [idxf_hit p xs 0 k x hx.out hq.out hno]; omega), hb.trans (hb'.mono hb.size)⟩
      | false =>
        rw [hq] at hcall
        replace hq := Lib.hid hq
        go_wp2_with (go_at_fn g; refine hcall.mono ?_; rintro e w' ⟨rfl, hb'⟩)
        go_roundw
        case rel => exact ⟨k + 1, by go_num, by omega, noneTo_succ hno hx.out hq.out, hb.trans (hb'.mono hb.size)⟩
        case measure => simp [intOf]; omega
    · go_wp2
      go_ret
      exact ⟨ret_int (by rw [idxf_miss p xs 0 (noneTo_all hno (by have := hl.out; omega))]), hb⟩
set_option maxHeartbeats 1000000 in
theorem contains_bnd (p : Bnd → Bool) (A : Option Addr) (n c B g : Nat) (lb : Array Value) (eg : ∀ args w, (callFunc g args).run Tryz.prog w = .ok (.enter g args) w) (xs : List Bnd) (w : World)
    (hp : PredB g lb (fun b => Value.agg #[.int .i64 b.lo, .int .i64 b.hi]) p w) (hs : SlAt w B 2 Bnd.cells A n c xs) :
    Calls Tryz.prog 142 #[.slice A n c, .func (.func g) #[] lb] w fun e w' => e = .returned (.bool (xs.any p)) ∧ Below w.heap.size w w' := by
  go_enter Tryz.func142, Tryz.ntmps142
  go_wp2_with (go_at_call 152; refine (index_bnd p A n c B g lb eg xs _ hp hs).mono ?_; rintro e w' ⟨rfl, hb'⟩)
  go_ret
  exact ⟨ret_bool (idxf_any p xs 0), hb'⟩
end Go.Proofs.YtfengddpfeneiaaGreat
namespace Go.Proofs.YtfengddpfeneiaaGreat
open Go.RowKit Go.Shelf

set_option maxHeartbeats 400000 in
theorem within_any (n lo hi : Int) (w : World) :
    Calls Tryz.prog 75 #[.int .i64 n, .int .i64 lo, .int .i64 hi] w fun e w' => e = .returned (.bool (decide (lo ≤ n ∧ n ≤ hi))) ∧ w = w' := by
  by_cases h : lo ≤ n
  · go_enter Tryz.func75, Tryz.ntmps75
    go_wp2
    go_ret
    simp [h]
  · go_enter Tryz.func75, Tryz.ntmps75
    go_wp2
    go_ret
    simp; omega
set_option maxHeartbeats 400000 in
theorem bound_any (b : Bnd) (m : Int) (w : World) (hm0 : 0 ≤ m) (hm : m ≤ 100000) :
    Calls Tryz.prog 124 #[.agg #[.int .i64 b.lo, .int .i64 b.hi], .int .i64 m] w fun e w' => e = .returned (.bool (okBnd m b)) ∧ Below w.heap.size w w' := by
  go_enter Tryz.func124, Tryz.ntmps124
  go_wp2_with (go_at_call 75; refine (within_any _ _ _ _).mono ?_; rintro e w' ⟨rfl, rfl⟩)
  · go_ret
    exact ⟨ret_bool (dec_eq (by omega)), (Below.refl _ _).alloc (Nat.le_refl _) _⟩
  · go_ret
    exact ⟨ret_bool (by simp [okBnd]; omega), (Below.refl _ _).alloc (Nat.le_refl _) _⟩
set_option maxHeartbeats 400000 in
theorem bounds1_any (w : World) : PredB 143 #[] (fun b => Value.agg #[.int .i64 b.lo, .int .i64 b.hi]) (fun b => !okBnd 16384 b) w := by
  intro W x _
  show Calls Tryz.prog 143 #[.agg #[.int .i64 x.lo, .int .i64 x.hi]] W _
  go_enter Tryz.func143, Tryz.ntmps143
  go_wp2_with (go_at_call 124; refine (bound_any x 16384 _ (by omega) (by omega)).mono ?_; rintro e w' ⟨rfl, hb⟩)
  go_ret
  exact ⟨rfl, ((Below.refl _ _).alloc (Nat.le_refl _) _).trans (hb.mono (by simp))⟩
theorem eg_bounds1 : Enters Tryz.prog 143 := enters_of Tryz.func143 (by kernel_rfl) rfl
set_option maxHeartbeats 1000000 in
theorem bounds_any (s : Strm) (A O : Option Addr) (n c no co B : Nat) (l : List Bnd) (w : World) (hn : s.secs.length = n) (hs : SlAt w B 2 Bnd.cells O no co l) :
    Calls Tryz.prog 117 #[.agg #[.int .i64 s.head, .slice A n c, .int .i64 s.lane.lo, .int .i64 s.lane.hi, .int .i64 s.bend], .slice O no co] w fun e w' => e = .returned (.bool (okOffs s l)) ∧ Below w.heap.size w w' := by
  have hl := Lib.hid hs.len
  have hn' := Lib.hid hn
  clear hn
  by_cases he : no = n
  · subst he
    go_enter Tryz.func117, Tryz.ntmps117
    go_wp2_with (go_at_call 142; refine (contains_bnd (fun b => !okBnd 16384 b) O no co B _ _ eg_bounds1 l _ (bounds1_any _) (hs.alloc _)).mono ?_; rintro e w' ⟨rfl, hb⟩)
    go_ret
    exact ⟨ret_bool (by simp [okOffs, any_not, hl.out, hn'.out]), ((Below.refl _ _).alloc (Nat.le_refl _) _).trans (hb.mono (by simp))⟩
  · have he' : ((no : Int) == (n : Int)) = false := by rw [beq_eq_false_iff_ne]; omega
    have hx : okOffs s l = false := by simp [okOffs, hl.out, hn'.out, he]
    replace he := Lib.hid he
    go_enter Tryz.func117, Tryz.ntmps117
    go_wp2
    go_ret
    exact ⟨ret_bool hx.symm, ((Below.refl _ _).alloc (Nat.le_refl _) _)⟩
/-! speeds -/
def okTo (l : List Sec) (k : Nat) : Prop := (l.take k).all okSec = true
theorem okTo_succ {l : List Sec} {k : Nat} {x : Sec} (h : okTo l k) (hk : l[k]? = some x) (hx : okSec x = true) : okTo l (k + 1) := by
  unfold okTo at *
  rw [List.take_add_one, hk]; simp [h, hx]
theorem chk_bad {s : Strm} {k : Nat} {x : Sec} (hk : s.secs[k]? = some x) (hx : okSec x = false) : chkStrm s = 30 := by
  have h1 : s.secs.all okSec = false := by
    rw [List.all_eq_false]
    exact ⟨x, List.mem_of_getElem? hk, by simp [hx]⟩
  simp [chkStrm, okStrm, h1]
theorem chk_head {s : Strm} (h : ¬ headOk s) : chkStrm s = 30 := by simp [chkStrm, okStrm, h]
theorem chk_ok {s : Strm} (h : headOk s) (h2 : okTo s.secs s.secs.length) : chkStrm s = 0 := by
  unfold okTo at h2; rw [List.take_length] at h2
  simp [chkStrm, okStrm, h, h2]
theorem okSec_of {x : Sec} (h : 1 ≤ x.len ∧ x.len ≤ 1000 ∧ 0 ≤ x.fol ∧ x.fol ≤ 64 ∧ 0 ≤ x.bird ∧ x.bird ≤ 1000 ∧ 0 ≤ x.drag ∧ x.drag ≤ 1000 ∧ 0 ≤ x.cap ∧ x.cap ≤ 1073741824) : okSec x = true := decide_eq_true h
theorem okSec_not {x : Sec} (h : ¬ (1 ≤ x.len ∧ x.len ≤ 1000 ∧ 0 ≤ x.fol ∧ x.fol ≤ 64 ∧ 0 ≤ x.bird ∧ x.bird ≤ 1000 ∧ 0 ≤ x.drag ∧ x.drag ≤ 1000 ∧ 0 ≤ x.cap ∧ x.cap ≤ 1073741824)) : okSec x = false := decide_eq_false h
set_option maxHeartbeats 4000000 in
theorem check_any (s : Strm) (A : Option Addr) (n c B : Nat) (w : World) (hs : SlAt w B 5 Sec.cells A n c s.secs) :
    Calls Tryz.prog 116 #[.agg #[.int .i64 s.head, .slice A n c, .int .i64 s.lane.lo, .int .i64 s.lane.hi, .int .i64 s.bend]] w fun e w' => e = .returned (.int .i64 (chkStrm s)) ∧ Below w.heap.size w w' := by
  have hl := Lib.hid hs.len
  have hn := hs.le
  by_cases hh : headOk s
  · have hh' := Lib.hid hh
    obtain ⟨g0, g1, g2, g3, g4, g5, g6, g7, g8⟩ := hh
    have g2' : 1 ≤ (n : Int) := by have := hl.out; omega
    have g3' : (n : Int) ≤ 8 := by have := hl.out; omega
    clear g2 g3
    go_enter Tryz.func116, Tryz.ntmps116
    go_wp2_with (first | (go_at_call 75; refine (within_any _ _ _ _).mono ?_; rintro e w' ⟨rfl, rfl⟩) | (go_at_call 124; refine (bound_any s.lane _ _ (by omega) (by omega)).mono ?_; unfold okBnd; rintro e w1 ⟨rfl, hb1⟩; obtain ⟨hc1, hf1⟩ := bcell hb1))
    have hbw : Below w.heap.size w w1 := ((Below.refl _ _).alloc (Nat.le_refl _) _).trans (hb1.mono (by simp))
    clear hc1 hf1 hb1
    go_loopw [31] (fun i wr => ∃ k : Nat, i = .int .i64 k ∧ k ≤ n ∧ okTo s.secs k ∧ Below w.heap.size w wr) (fun i wr => n - (intOf i).toNat)
    case atStart => exact ⟨0, rfl, Nat.zero_le _, by simp [okTo], hbw⟩
    case round =>
      obtain ⟨k, rfl, hk, hok, hb⟩ := hrel
      by_cases hlt : k < n
      · obtain ⟨x, hx⟩ := some_of_lt hl.out hlt
        obtain ⟨b, off, rfl, -, hbl, c0, c1, c2, c3, c4⟩ := (hs.keep hb.size (fun _ _ h => hb.cell h)).sec hx
        replace hx := Lib.hid hx
        clear hs
        by_cases hs1 : 1 ≤ x.len ∧ x.len ≤ 1000 ∧ 0 ≤ x.fol ∧ x.fol ≤ 64 ∧ 0 ≤ x.bird ∧ x.bird ≤ 1000 ∧ 0 ≤ x.drag ∧ x.drag ≤ 1000 ∧ 0 ≤ x.cap ∧ x.cap ≤ 1073741824
        · have ho := Lib.hid (okSec_of hs1)
          obtain ⟨g0, g1, g2, g3, g4, g5, g6, g7, g8, g9⟩ := hs1
          go_wp2_with (go_at_call 75; refine (within_any _ _ _ _).mono ?_; rintro e w' ⟨rfl, rfl⟩)
          go_roundw
          case rel => exact ⟨k + 1, by go_num, by omega, okTo_succ hok hx.out ho.out, hb.alloc hb.size _⟩
          case measure => simp [intOf]; omega
        · have ho := Lib.hid (okSec_not hs1)
          replace hs1 := Lib.hid hs1
          go_wp2_with (go_at_call 75; refine (within_any _ _ _ _).mono ?_; rintro e w' ⟨rfl, rfl⟩)
          all_goals first
            | (go_ret; exact ⟨ret_int (chk_bad hx.out ho.out).symm, hb.alloc hb.size _⟩)
            | (exfalso; refine hs1.out ?_; simp at *; omega)
      · go_wp2
        go_ret
        have hkn : k = s.secs.length := by have := hl.out; omega
        exact ⟨ret_int (chk_ok hh'.out (hkn ▸ hok)).symm, hb⟩
  · have hh' := Lib.hid hh
    clear hh
    go_enter Tryz.func116, Tryz.ntmps116
    go_wp2_with (first | (go_at_call 75; refine (within_any _ _ _ _).mono ?_; rintro e w' ⟨rfl, rfl⟩) | (go_at_call 124; refine (bound_any s.lane _ _ (by omega) (by omega)).mono ?_; unfold okBnd; rintro e w1 ⟨rfl, hb1⟩; obtain ⟨hc1, hf1⟩ := bcell hb1))
    all_goals first
      | (go_ret; exact ⟨ret_int (chk_head hh'.out).symm, by first | exact ((Below.refl _ _).alloc (Nat.le_refl _) _).trans (hb1.mono (by simp)) | exact (Below.refl _ _).alloc (Nat.le_refl _) _⟩)
      | (exfalso; refine hh'.out ?_; unfold headOk; have := hl.out; simp at *; omega)
end Go.Proofs.YtfengddpfeneiaaGreat
namespace Go.Proofs.YtfengddpfeneiaaGreat
open Go.RowKit Go.Shelf

theorem ok_sec {s : Strm} (h : okStrm s = true) {i : Nat} (hi : i < s.secs.length) : okSec (s.sec i) = true := by
  unfold okStrm at h
  simp only [Bool.and_eq_true, List.all_eq_true] at h
  refine h.2 _ ?_
  unfold Strm.sec
  rw [List.getD_eq_getElem?_getD, List.getElem?_eq_getElem hi]
  exact List.getElem_mem hi
theorem sec_at (s : Strm) {i : Nat} (hi : i < s.secs.length) : s.secs[i]? = some (s.sec i) := by
  unfold Strm.sec
  rw [List.getD_eq_getElem?_getD, List.getElem?_eq_getElem hi]; rfl
theorem ok_head {s : Strm} (h : okStrm s = true) : headOk s := by
  unfold okStrm at h
  simp only [Bool.and_eq_true, decide_eq_true_eq] at h
  exact h.1

theorem eachL_length {α β : Type} (f : Nat → α → α → β) (h : α) (l : List α) : (eachL f h l).length = l.length := by simp [eachL]
theorem eachL_get {α β : Type} (f : Nat → α → α → β) (h : α) (l : List α) {i : Nat} (hi : i < l.length) : (eachL f h l)[i]? = some (f i (l.getD i h) (prev h l i)) := by
  simp [eachL, hi]
/-- What is handed to each is at every index and every own and former value, in every later world, a number. -/
def FnInt (g : Nat) (lb : Array Value) (f : Nat → Int → Int → Int) (l : List Int) (h : Int) (w : World) : Prop :=
  ∀ (W : World) (i : Nat), Below w.heap.size w W → i < l.length → Calls Tryz.prog g (#[.int .i64 (i : Int), .int .i64 (l.getD i h), .int .i64 (prev h l i)] ++ lb) W fun e w' => e = .returned (.int .i64 (f i (l.getD i h) (prev h l i))) ∧ Below W.heap.size W w'
end Go.Proofs.YtfengddpfeneiaaGreat
namespace Go.Proofs.YtfengddpfeneiaaGreat
open Go.RowKit Go.Shelf

/-- What is handed to each is at every index, and every own and former bound, in every later world, a bound. -/
def FnBnd (g : Nat) (lb : Array Value) (f : Nat → Bnd → Bnd → Bnd) (l : List Bnd) (h : Bnd) (w : World) : Prop :=
  ∀ (W : World) (i : Nat), Below w.heap.size w W → i < l.length → Calls Tryz.prog g (#[.int .i64 (i : Int), .agg #[.int .i64 (l.getD i h).lo, .int .i64 (l.getD i h).hi], .agg #[.int .i64 (prev h l i).lo, .int .i64 (prev h l i).hi]] ++ lb) W fun e w' =>
    e = .returned (.agg #[.int .i64 (f i (l.getD i h) (prev h l i)).lo, .int .i64 (f i (l.getD i h) (prev h l i)).hi]) ∧ Below W.heap.size W w'
/-- A row of bounds of the call's own. -/
def OwnBnds (w0 : World) (n : Nat) (L : List Bnd) (e : Ending) (w' : World) : Prop :=
  ∃ O co, e = .returned (.slice O n co) ∧ w'.ownsRow w0.heap.size 40 2 (.slice O n co) n (L.flatMap Bnd.cells) ∧ SlAt w' w0.heap.size 2 Bnd.cells O n co L ∧ Below w0.heap.size w0 w'
theorem OwnBnds.lift {w w1 w' : World} {n : Nat} {L : List Bnd} {e : Ending} (h : OwnBnds w1 n L e w') (hb : Below w.heap.size w w1) : OwnBnds w n L e w' := by
  obtain ⟨O, co, rfl, hown, hr, hb2⟩ := h
  exact ⟨O, co, rfl, ownsRow_base hown hb.size, hr.mono hb.size, hb.trans (hb2.mono hb.size)⟩
set_option maxRecDepth 100000 in
set_option maxHeartbeats 2000000 in
theorem eachbnd_any (f : Nat → Bnd → Bnd → Bnd) (l : List Bnd) (h : Bnd) (A : Option Addr) (n c B g : Nat) (lb : Array Value) (eg : ∀ args w, (callFunc g args).run Tryz.prog w = .ok (.enter g args) w) (w : World)
    (hf : FnBnd g lb f l h w) (hs : SlAt w B 2 Bnd.cells A n c l) :
    Calls Tryz.prog 144 #[.slice A n c, .agg #[.int .i64 h.lo, .int .i64 h.hi], .func (.func g) #[] lb] w (OwnBnds w n (eachL f h l)) := by
  have hn := Lib.hid hs.le
  have hl := Lib.hid hs.len
  obtain ⟨i0, hi0, hz0, hz1, hz2⟩ := info_parts Tryz.infoBnd
  have hc1 := Lib.hid (show i0.bytes * n ≤ 281474976710656 by have := hn.out; rw [hz2]; omega)
  have hc2 := Lib.hid (show n ≤ maxLen by have := hn.out; unfold maxLen; omega)
  go_enter Tryz.func144, Tryz.ntmps144
  go_wp2_with (at_make; refine wpList_make_full _ rfl _ _ 29 rfl w.heap.size 40 i0 (.agg #[.int .i64 0, .int .i64 0]) 2 Tryz.underlying29 hi0 hz0 hz1 _ _ _ _ n rfl rfl rfl rfl hc1.out hc2.out (by simp) ?_; intro w1 hown hgrow; have k4 := (Blk.new w _ _).grown hgrow (by simp); obtain ⟨c4, f4, l4⟩ := k4.rules)
  have hL : (eachL f h l).length = n := by rw [eachL_length, hl.out]
  rw [World.size_alloc] at hown
  have hown0 : w1.ownsRow w.heap.size 40 2 (.slice (some ⟨w.heap.size + 1, 0, none⟩) n n) n ((fillTo (eachL f h l) 0 ⟨0, 0⟩).flatMap Bnd.cells) := by
    rw [fillTo_zero, hL]
    rw [madeCells_bnd] at hown
    exact hown
  have hb1 : Below w.heap.size w w1 := ((Below.refl _ _).alloc (Nat.le_refl _) _).grown hgrow (by simp) (fun k e => by cases e)
  have hlt1 : w.heap.size + 1 < w1.heap.size := (hown.lt _ rfl).2
  have hL' := Lib.hid hL
  clear hown hgrow hL hz0 hz1 hz2 hi0 c4 f4 l4 k4
  have hn' := hn.out
  go_loopw [17] (fun i wr => ∃ k : Nat, i = .int .i64 k ∧ k ≤ n ∧ Blk wr w1.heap.size 40 #[.int .i64 (prev h l k).lo, .int .i64 (prev h l k).hi] ∧ wr.ownsRow w.heap.size 40 2 (.slice (some ⟨w.heap.size + 1, 0, none⟩) n n) n ((fillTo (eachL f h l) k ⟨0, 0⟩).flatMap Bnd.cells) ∧ Below w.heap.size w wr) (fun i wr => n - (intOf i).toNat)
  case atStart =>
    exact ⟨0, rfl, Nat.zero_le _, Blk.new _ _ _, hown0.alloc _, hb1.alloc hb1.size _⟩
  case round =>
    obtain ⟨k, rfl, hk, k8, hown, hb⟩ := hrel
    by_cases hlt : k < n
    · have hcall := fun W (h : Below w.heap.size w W) => hf W k h (by have := hl.out; omega)
      have hget := Lib.hid (eachL_get f h l (i := k) (by have := hl.out; omega))
      obtain ⟨b, off, rfl, -, hbl, c0, c1⟩ := (hs.keep hb.size (fun _ _ h => hb.cell h)).bnd (getD_get (l := l) h (i := k) (by have := hl.out; omega))
      have hpk : Hid (prev h l (k + 1) = l.getD k h) := rfl
      obtain ⟨c8, f8, l8⟩ := k8.rules
      generalize f k (l.getD k h) (prev h l k) = z at hget hcall
      generalize prev h l k = y at hcall k8 c8
      generalize l.getD k h = x at hcall c0 c1 hpk
      have n1 : ¬ wr.heap.size = w.heap.size + 1 := by omega
      have n2 : ¬ wr.heap.size = w1.heap.size := by omega
      have n3 : ¬ w1.heap.size = w.heap.size + 1 := by omega
      have n1' : ¬ w.heap.size + 1 = wr.heap.size := by omega
      have n2' : ¬ w1.heap.size = wr.heap.size := by omega
      have n3' : ¬ w.heap.size + 1 = w1.heap.size := by omega
      clear hs hf
      go_wp2_with fail
      refine (hcall _ (hb.alloc hb.size _)).mono ?_
      clear hcall c0 c1 c8 f8
      rintro e w' ⟨rfl, hb'⟩
      have hown2 := ownsRow_below (hown.alloc _) hb'
      obtain ⟨v0, d0⟩ := own_cell hown2 (j := k * 2) (by omega)
      obtain ⟨v1, d1⟩ := own_cell hown2 (j := k * 2 + 1) (by omega)
      have e0 := hown2.frozenAt (k * 2)
      have e1 := hown2.frozenAt (k * 2 + 1)
      have k10 := (Blk.new wr _ _).below hb'
      obtain ⟨c10, f10, l10⟩ := k10.rules
      have k8' := (k8.alloc _).below hb'
      obtain ⟨c8, f8, l8'⟩ := k8'.rules
      go_wp2
      have hown3 := ((hown2.stored (k * 2) (.int .i64 z.lo)).1.stored (k * 2 + 1) (.int .i64 z.hi)).1
      rw [flatMap_set2, fillTo_set hget.out] at hown3
      go_roundw
      case rel =>
        refine ⟨k + 1, by go_num, by omega, ?_, ownsRow_setCell (ownsRow_setCell hown3 (by simp [Value.ownBlock]; omega) _) (by simp [Value.ownBlock]; omega) _, ?_⟩
        · rw [hpk.out]
          have := (((k8'.far (p := ⟨w.heap.size + 1, k * 2, none⟩) n3 (.int .i64 z.lo)).far (p := ⟨w.heap.size + 1, k * 2 + 1, none⟩) n3 (.int .i64 z.hi)).set_ 0 (.int .i64 x.lo)).set_ 1 (.int .i64 x.hi)
          exact this
        · exact (((((hb.alloc hb.size _).trans (hb'.mono (by simp; omega))).setCell (p := ⟨w.heap.size + 1, k * 2, none⟩) (by simp) _).setCell (p := ⟨w.heap.size + 1, k * 2 + 1, none⟩) (by simp) _).setCell (p := ⟨w1.heap.size, 0, none⟩) (by simp; omega) _).setCell (p := ⟨w1.heap.size, 1, none⟩) (by simp; omega) _
      case measure => simp [intOf]; omega
    · obtain rfl : k = n := by omega
      go_wp2
      go_ret
      rw [fillTo_len _ hL'.out] at hown
      obtain ⟨O, co, e1, h1⟩ := SlAt.of_own (enc := Bnd.cells) hown hn' (eachL f h l) rfl (fun _ => rfl) hL'.out
      exact ⟨O, co, congrArg Ending.returned e1, e1 ▸ hown, h1, hb⟩

set_option maxHeartbeats 400000 in
theorem still_any (m : Int) (w : World) :
    Calls Tryz.prog 145 #[.int .i64 m] w fun e w' => e = .returned (.agg #[.int .i64 (still m).lo, .int .i64 (still m).hi]) ∧ Below w.heap.size w w' := by
  go_enter Tryz.func145, Tryz.ntmps145
  go_wp2
  exact bodyPost_ret (v := .agg #[.int .i64 m, .int .i64 m]) (by simp [results, Tryz.results145, go_sem]) rfl ⟨rfl, (Below.refl _ _).alloc (Nat.le_refl _) _⟩
set_option maxRecDepth 100000 in
set_option maxHeartbeats 2000000 in
theorem bends1_any (i : Int) (own bef : Bnd) (w : World) (h1 : -16384 ≤ own.lo) (h2 : own.lo ≤ own.hi) (h3 : own.hi ≤ 16384) (h4 : -16384 ≤ bef.lo) (h5 : bef.lo ≤ bef.hi) (h6 : bef.hi ≤ 16384) :
    Calls Tryz.prog 146 #[.int .i64 i, .agg #[.int .i64 own.lo, .int .i64 own.hi], .agg #[.int .i64 bef.lo, .int .i64 bef.hi]] w fun e w' => e = .returned (.agg #[.int .i64 (bendB own bef).lo, .int .i64 (bendB own bef).hi]) ∧ Below w.heap.size w w' := by
  go_enter Tryz.func146, Tryz.ntmps146
  go_wp2
  all_goals
    refine bodyPost_ret (v := .agg #[.int .i64 (bendB own bef).lo, .int .i64 (bendB own bef).hi]) ?_ rfl ⟨rfl, (((Below.refl _ _).alloc (Nat.le_refl _) _).alloc (by simp) _).alloc (by simp; omega) _⟩
    simp [results, Tryz.results146, go_sem, bendB]
    omega

def okB (b : Bnd) : Prop := -16384 ≤ b.lo ∧ b.lo ≤ b.hi ∧ b.hi ≤ 16384
theorem okB_of {l : List Bnd} {h : Bnd} (hl : l.all (okBnd 16384) = true) (hh : okB h) (k : Nat) : okB (l.getD k h) := by
  rw [List.getD_eq_getElem?_getD]
  by_cases hi : k < l.length
  · rw [List.getElem?_eq_getElem hi]
    have := List.all_eq_true.1 hl _ (List.getElem_mem hi)
    simpa [okBnd, okB] using this
  · rw [List.getElem?_eq_none (by omega)]
    exact hh
theorem okB_prev {l : List Bnd} {h : Bnd} (hl : l.all (okBnd 16384) = true) (hh : okB h) (k : Nat) : okB (prev h l k) := by
  cases k with
  | zero => exact hh
  | succ k => exact okB_of hl hh k
theorem okB_still {s : Strm} (h : headOk s) : okB (still s.head) := by unfold headOk at h; unfold okB still; simp only; omega
theorem okOffs_len {s : Strm} {l : List Bnd} (h : okOffs s l = true) : l.length = s.secs.length := by
  unfold okOffs at h; simp only [Bool.and_eq_true, decide_eq_true_eq] at h; exact h.1
theorem okOffs_all {s : Strm} {l : List Bnd} (h : okOffs s l = true) : l.all (okBnd 16384) = true := by
  unfold okOffs at h; simp only [Bool.and_eq_true] at h; exact h.2
theorem eg_bends1 : Enters Tryz.prog 146 := enters_of Tryz.func146 (by kernel_rfl) rfl
set_option maxRecDepth 100000 in
set_option maxHeartbeats 2000000 in
theorem bends_any (s : Strm) (A O : Option Addr) (n c no co B : Nat) (l : List Bnd) (w : World) (ho : headOk s) (hl : l.all (okBnd 16384) = true) (hs : SlAt w B 2 Bnd.cells O no co l) :
    Calls Tryz.prog 118 #[.agg #[.int .i64 s.head, .slice A n c, .int .i64 s.lane.lo, .int .i64 s.lane.hi, .int .i64 s.bend], .slice O no co] w (OwnBnds w no (bendL s l)) := by
  replace ho := Lib.hid ho
  replace hl := Lib.hid hl
  go_enter Tryz.func118, Tryz.ntmps118
  go_wp2_with fail
  refine (still_any s.head _).mono ?_; rintro e w1 ⟨rfl, hb1⟩
  have b1 := ((Below.refl w.heap.size w).alloc (Nat.le_refl _) _).trans (hb1.mono (by simp))
  go_wp2_with fail
  have hfn : FnBnd 146 #[] (fun _ own bef => bendB own bef) l (still s.head) w1 := by
    intro W i hb hi
    obtain ⟨q1, q2, q3⟩ := okB_of hl.out (okB_still ho.out) i
    obtain ⟨q4, q5, q6⟩ := okB_prev hl.out (okB_still ho.out) i
    exact bends1_any i _ _ W q1 q2 q3 q4 q5 q6
  refine (eachbnd_any _ l (still s.head) O no co B _ _ eg_bends1 w1 hfn ((hs.alloc _).below hb1)).mono ?_
  rintro e w2 ⟨O', co', rfl, hown, hr, hb2⟩
  go_wp2
  go_ret
  exact OwnBnds.lift ⟨O', co', rfl, hown, hr, hb2⟩ b1

end Go.Proofs.YtfengddpfeneiaaGreat
namespace Go.Proofs.YtfengddpfeneiaaGreat
open Go.RowKit Go.Shelf

/-! enclosed$1: both ends of the bound after a step -/
/-- What checked hands back: the streamer, or a zero one and the error. -/
def RetLine (s : Strm) (A : Option Addr) (n c : Nat) (er : Int) (w : World) (e : Ending) (w' : World) : Prop :=
  (er = 0 → e = .returned (.tuple #[.agg #[.int .i64 s.head, .slice A n c, .int .i64 s.lane.lo, .int .i64 s.lane.hi, .int .i64 s.bend], .int .i64 0])) ∧
  (er ≠ 0 → e = .returned (.tuple #[.agg #[.int .i64 0, .slice none 0 0, .int .i64 0, .int .i64 0, .int .i64 0], .int .i64 er])) ∧ Below w.heap.size w w'
set_option maxRecDepth 100000 in
set_option maxHeartbeats 1000000 in
theorem checked_any (s : Strm) (A O : Option Addr) (n c no co B1 B : Nat) (l : List Bnd) (w : World) (hss : SlAt w B1 5 Sec.cells A n c s.secs) (hs : SlAt w B 2 Bnd.cells O no co l) :
    Calls Tryz.prog 71 #[.agg #[.int .i64 s.head, .slice A n c, .int .i64 s.lane.lo, .int .i64 s.lane.hi, .int .i64 s.bend], .slice O no co] w (RetLine s A n c (errB s l) w) := by
  cases h1 : okStrm s
  · have hk : chkStrm s = 30 := by simp [chkStrm, h1]
    have hv : errB s l = 30 := by simp [errB, h1]
    rw [hv]
    clear h1 hv
    replace hk := Lib.hid hk
    go_enter Tryz.func71, Tryz.ntmps71
    go_wp2_with fail
    refine (check_any s A n c B1 _ ((hss.alloc _).alloc _)).mono ?_; rw [hk.out]; rintro e w1 ⟨rfl, hb1⟩
    have k4 := (Blk.new _ _ _).below hb1
    rw [World.size_alloc] at k4
    obtain ⟨c4, f4, l4⟩ := k4.rules
    have b1 := (((Below.refl w.heap.size w).alloc (Nat.le_refl _) _).alloc (by simp) _).trans (hb1.mono (by simp; omega))
    go_wp2
    refine bodyPost_ret (v := .tuple #[.agg #[.int .i64 0, .slice none 0 0, .int .i64 0, .int .i64 0, .int .i64 0], .int .i64 30]) (by simp [results, Tryz.results71, go_sem, c4]) rfl ⟨fun h => by omega, fun _ => rfl, ?_⟩
    (have hzB := b1.size; repeat (first | exact b1 | (refine Below.setCell ?_ (by dsimp only; omega) _) | (refine Below.alloc ?_ (by simp; omega) _) | (refine Below.drew ?_)))
  · have hk : chkStrm s = 0 := by simp [chkStrm, h1]
    replace hk := Lib.hid hk
    have hsl := Lib.hid hss.len
    cases h2 : okOffs s l
    · have hv : errB s l = 31 := by simp [errB, h1, h2]
      rw [hv]
      clear h1 hv
      replace h2 := Lib.hid h2
      go_enter Tryz.func71, Tryz.ntmps71
      go_wp2_with fail
      refine (check_any s A n c B1 _ ((hss.alloc _).alloc _)).mono ?_; rw [hk.out]; rintro e w1 ⟨rfl, hb1⟩
      have k2 := ((Blk.new w _ _).alloc _).below hb1
      have k4 := (Blk.new _ _ _).below hb1
      rw [World.size_alloc] at k4
      obtain ⟨c2, f2, l2⟩ := k2.rules
      have b1 := (((Below.refl w.heap.size w).alloc (Nat.le_refl _) _).alloc (by simp) _).trans (hb1.mono (by simp; omega))
      go_wp2_with fail
      refine (bounds_any s A O n c no co B l _ hsl.out ((((hs.alloc _).alloc _).below hb1).alloc _)).mono ?_; rw [h2.out]; rintro e w2 ⟨rfl, hb2⟩
      replace k4 := (k4.alloc _).below hb2
      clear c2 f2 l2 k2
      obtain ⟨c4, f4, l4⟩ := k4.rules
      have b2 := b1.trans (((Below.refl _ _).alloc b1.size _).trans (hb2.mono (by have := b1.size; simp; omega)))
      go_wp2
      refine bodyPost_ret (v := .tuple #[.agg #[.int .i64 0, .slice none 0 0, .int .i64 0, .int .i64 0, .int .i64 0], .int .i64 31]) (by simp [results, Tryz.results71, go_sem, c4]) rfl ⟨fun h => by omega, fun _ => rfl, ?_⟩
      (have hzB := b2.size; repeat (first | exact b2 | (refine Below.setCell ?_ (by dsimp only; omega) _) | (refine Below.alloc ?_ (by simp; omega) _) | (refine Below.drew ?_)))
    · have hv : errB s l = 0 := by simp [errB, h1, h2]
      rw [hv]
      clear h1 hv
      replace h2 := Lib.hid h2
      go_enter Tryz.func71, Tryz.ntmps71
      go_wp2_with fail
      refine (check_any s A n c B1 _ ((hss.alloc _).alloc _)).mono ?_; rw [hk.out]; rintro e w1 ⟨rfl, hb1⟩
      have k2 := ((Blk.new w _ _).alloc _).below hb1
      have k4 := (Blk.new _ _ _).below hb1
      rw [World.size_alloc] at k4
      obtain ⟨c2, f2, l2⟩ := k2.rules
      have b1 := (((Below.refl w.heap.size w).alloc (Nat.le_refl _) _).alloc (by simp) _).trans (hb1.mono (by simp; omega))
      go_wp2_with fail
      refine (bounds_any s A O n c no co B l _ hsl.out ((((hs.alloc _).alloc _).below hb1).alloc _)).mono ?_; rw [h2.out]; rintro e w2 ⟨rfl, hb2⟩
      have k7 := (Blk.new w1 _ _).below hb2
      replace k4 := (k4.alloc _).below hb2
      clear c2 f2 l2 k2
      obtain ⟨c4, f4, l4⟩ := k4.rules
      obtain ⟨c7, f7, l7⟩ := k7.rules
      have b2 := b1.trans (((Below.refl _ _).alloc b1.size _).trans (hb2.mono (by have := b1.size; simp; omega)))
      go_wp2
      refine bodyPost_ret (v := .tuple #[.agg #[.int .i64 s.head, .slice A n c, .int .i64 s.lane.lo, .int .i64 s.lane.hi, .int .i64 s.bend], .int .i64 0]) (by simp [results, Tryz.results71, go_sem, c4]) rfl ⟨fun _ => rfl, fun h => absurd rfl h, ?_⟩
      (have hzB := b2.size; repeat (first | exact b2 | (refine Below.setCell ?_ (by dsimp only; omega) _) | (refine Below.alloc ?_ (by simp; omega) _) | (refine Below.drew ?_)))
theorem errB_zero {s : Strm} {l : List Bnd} (h : errB s l = 0) : okStrm s = true ∧ okOffs s l = true := by
  unfold errB at h
  split at h
  · split at h
    · constructor <;> assumption
    · omega
  · omega
end Go.Proofs.YtfengddpfeneiaaGreat
namespace Go.Proofs.YtfengddpfeneiaaGreat
open Go.RowKit Go.Shelf

def mixTo (a b : List Bnd) (k : Nat) : List Bnd := a.take k ++ b.drop k
def pullZ (sl fa : Int) (secs : List Sec) (bd : List Bnd) : List Bnd := (List.range bd.length).map fun i => sumB ((List.zipWith (ownPull sl fa) secs bd).drop i)
theorem sumB_step {Z : List Bnd} {k : Nat} {z : Bnd} (h : Z[k]? = some z) : sumB (Z.drop k) = ⟨(sumB (Z.drop (k + 1))).lo + z.lo, (sumB (Z.drop (k + 1))).hi + z.hi⟩ := by
  have hk : k < Z.length := (List.getElem?_eq_some_iff.1 h).1
  have e : Z[k] = z := (List.getElem?_eq_some_iff.1 h).2
  rw [List.drop_eq_getElem_cons hk, e]; rfl
theorem bendL_bd {s : Strm} {l : List Bnd} (hh : headOk s) (hl : l.all (okBnd 16384) = true) {k : Nat} {b : Bnd} (h : (bendL s l)[k]? = some b) : 0 ≤ b.lo ∧ b.lo ≤ 32768 ∧ 0 ≤ b.hi ∧ b.hi ≤ 32768 := by
  have hk : k < l.length := by have := (List.getElem?_eq_some_iff.1 h).1; simpa [bendL, eachL_length] using this
  unfold bendL at h
  rw [eachL_get _ _ _ hk] at h
  obtain ⟨p1, p2, p3⟩ := okB_of hl (okB_still hh) k
  obtain ⟨p4, p5, p6⟩ := okB_prev hl (okB_still hh) k
  injection h with h
  subst h
  simp only [bendB]
  omega
def anyTo (p : Nat → Bool) (k : Nat) : Bool := (List.range k).any p
end Go.Proofs.YtfengddpfeneiaaGreat
namespace Go.Proofs.YtfengddpfeneiaaGreat
open Go.RowKit Go.Shelf
attribute [local go_sem] Oper.semAt_some

theorem ediv_mono {a b : Int} (h : a ≤ b) : a / 64 ≤ b / 64 := Int.ediv_le_ediv (by omega) h
theorem eased_mono {s : Strm} {x : Sec} (hh : headOk s) (hx : okSec x = true) {o1 o2 b1 b2 d1 d2 : Int} (ho : o1 ≤ o2) (hb : b1 ≤ b2) (hd : d1 ≤ d2) : eased s x o1 b1 d1 ≤ eased s x o2 b2 d2 := by
  obtain ⟨k0, k1, k2, k3, k4, k5, k6, k7, k8, k9⟩ := of_decide_eq_true hx
  obtain ⟨g0, g1, g2, g3, g4, g5, g6, g7, g8⟩ := hh
  have m1 : (64 - x.fol) * o1 ≤ (64 - x.fol) * o2 := Int.mul_le_mul_of_nonneg_left ho (by omega)
  have m2 : x.fol * b1 ≤ x.fol * b2 := Int.mul_le_mul_of_nonneg_left hb k2
  have m3 : ((64 - x.fol) * o1 + x.fol * b1) / 64 ≤ ((64 - x.fol) * o2 + x.fol * b2) / 64 := ediv_mono (by omega)
  simp only [eased]
  generalize ((64 - x.fol) * o1 + x.fol * b1) / 64 = q1 at *
  generalize ((64 - x.fol) * o2 + x.fol * b2) / 64 = q2 at *
  repeat' split
  all_goals omega
theorem encAt_len {s : Strm} {bs : List Bnd} {l : List Wat} {n : Nat} (hb : bs.length = n) : ∀ k, (encAt s bs l k).length = n
  | 0 => hb
  | k + 1 => by rw [encAt, encL, eachL_length]; exact encAt_len hb k

/-- What steps hands on in a round: the index, and the bounds after this step. -/
def StepsG (s : Strm) (bs : List Bnd) (l : List Wat) (n gl k : Nat) (vs : Array Value) (W : World) : Prop :=
  ∃ O co, vs = #[.int .i64 k, .slice O n co] ∧ SlAt W (gl + 1) 2 Bnd.cells O n co (encAt s bs l (k + 1))
end Go.Proofs.YtfengddpfeneiaaGreat
namespace Go.Proofs.YtfengddpfeneiaaGreat
set_option linter.unusedSimpArgs false
set_option linter.unusedVariables false
open Go.RowKit Go.Shelf
attribute [local go_sem] Oper.semAt_some

/-! strain -/
section
variable {s : Strm} {A O D V : Option Addr} {n c co nd cd nv cv : Nat} {w W W' : World} {xb xp : Int}
end
end Go.Proofs.YtfengddpfeneiaaGreat
namespace Go.Proofs.YtfengddpfeneiaaGreat
set_option linter.unusedSimpArgs false
set_option linter.unusedVariables false
open Go.RowKit Go.Shelf

theorem arr2 : WideMaps.ArrKey Tryz.prog 64 3 2 := ⟨by kernel_rfl, by kernel_rfl, by kernel_rfl, by kernel_rfl⟩
theorem keyed2 : Maps.Keyed Tryz.prog 64 := Maps.Keyed.of_law arr2.law
def kl (i k : Int) : Lit := .string (keyBytes [.int .i64 i, .int .i64 k])
theorem underInt : Tryz.prog.underlying 3 = some (.int .i64) := by kernel_rfl
def small (i : Int) : Prop := -1000000 ≤ i ∧ i ≤ 1000000
theorem small_wf {i : Int} (h : small i) : (Lit.int .i64 i).wf = true := by
  obtain ⟨h1, h2⟩ := h
  simp only [Lit.wf, IntKind.min, IntKind.max, IntKind.signed, IntKind.bits, Bool.and_eq_true, decide_eq_true_eq, if_true]
  omega
theorem types_pos : ∃ m, Tryz.prog.types.size = m + 1 := ⟨Tryz.prog.types.size - 1, by
  have h : (0 < Tryz.prog.types.size) = True := eq_true (of_decide_eq_true (by kernel_rfl))
  have := of_eq_true h
  omega⟩
theorem keyOf_kl {i k : Int} (hi : small i) (hk : small k) : keyOf Tryz.prog 64 (.agg #[.int .i64 i, .int .i64 k]) = some (kl i k) :=
  WideMaps.keyOf_pair arr2 underInt types_pos (small_wf hi) (small_wf hk)
theorem kl_inj {i k i' k' : Int} (hi : small i) (hk : small k) (hi' : small i') (hk' : small k') (h : kl i k = kl i' k') : i = i' ∧ k = k' := by
  have := keyed2.inj (keyOf_kl hi hk) (h ▸ keyOf_kl hi' hk')
  simpa using this
theorem kl_key (i k : Int) : WideAt.IsKeyLit (kl i k) := trivial

/-! The map at block b says f. -/
def KMap (w : World) (b n : Nat) (f : Nat → Nat → Bool) : Prop :=
  ∃ D : DataW Unit, w.ownsMap Tryz.prog 64 (plainElem Tryz.prog 4) b n D ∧ Maps.IsMap D ∧ ∀ i k : Nat, i ≤ 1000000 → k ≤ 1000000 → D.atKey (kl i k) (.lit (.bool false)) = .lit (.bool (f i k))
theorem small_nat {i : Nat} (h : i ≤ 1000000) : small (i : Int) := ⟨by omega, by omega⟩

theorem KMap.lt {w : World} {b n : Nat} {f : Nat → Nat → Bool} (h : KMap w b n f) : b < w.heap.size := let ⟨_, h, _⟩ := h; h.lt
theorem KMap.block {w w' : World} {b n : Nat} {f : Nat → Nat → Bool} (h : KMap w b n f) (e : w'.heap[b]? = w.heap[b]?) : KMap w' b n f := by
  obtain ⟨D, ⟨es, clock, hb, r⟩, h2⟩ := h
  exact ⟨D, ⟨es, clock, e.trans hb, r⟩, h2⟩
theorem KMap.below {w w' : World} {b n : Nat} {f : Nat → Nat → Bool} (h : KMap w b n f) (hb : Below w.heap.size w w') : KMap w' b n f := h.block (hb.block b h.lt)
theorem KMap.put {w w0' : World} {b n : Nat} {f : Nat → Nat → Bool} {i k : Nat} {x : Bool} (h : KMap w b n f) (hi : i ≤ 1000000) (hk : k ≤ 1000000) :
    ∃ D : DataW Unit, w.ownsMap Tryz.prog 64 (plainElem Tryz.prog 4) b n D ∧ ∀ w', w'.ownsMap Tryz.prog 64 (plainElem Tryz.prog 4) b (n + 1) (D.put (kl i k) (.lit (.bool x))) → KMap w' b (n + 1) (fun i' k' => if i' = i ∧ k' = k then x else f i' k') := by
  obtain ⟨D, ho, hm, hat⟩ := h
  refine ⟨D, ho, fun w' ho' => ⟨_, ho', ?_, fun i' k' hi' hk' => ?_⟩⟩
  · obtain ⟨es, rfl⟩ := hm
    exact ⟨_, rfl⟩
  · by_cases e : i' = i ∧ k' = k
    · obtain ⟨rfl, rfl⟩ := e
      rw [Maps.atKey_put_same hm (kl_key _ _)]
      simp
    · rw [Maps.atKey_put_other (fun h => e (by
        obtain ⟨h1, h2⟩ := kl_inj (small_nat hi') (small_nat hk') (small_nat hi) (small_nat hk) h
        exact ⟨by omega, by omega⟩))]
      simp only [if_neg e]
      exact hat i' k' hi' hk'
end Go.Proofs.YtfengddpfeneiaaGreat
namespace Go.Proofs.YtfengddpfeneiaaGreat
open Go.RowKit Go.Shelf

def set6 (w : World) (g : Nat) (v0 v1 v2 v3 v4 v5 : Value) : World :=
  (((((w.setCell ⟨g, 0, none⟩ v0).setCell ⟨g, 1, none⟩ v1).setCell ⟨g, 2, none⟩ v2).setCell ⟨g, 3, none⟩ v3).setCell ⟨g, 4, none⟩ v4).setCell ⟨g, 5, none⟩ v5
theorem Blk.set6 {w : World} {g : Nat} {t : TypeId} {a0 a1 a2 a3 a4 a5 : Value} (h : Blk w g t #[a0, a1, a2, a3, a4, a5]) (v0 v1 v2 v3 v4 v5 : Value) : Blk (set6 w g v0 v1 v2 v3 v4 v5) g t #[v0, v1, v2, v3, v4, v5] :=
  (((((h.set_ 0 v0).set_ 1 v1).set_ 2 v2).set_ 3 v3).set_ 4 v4).set_ 5 v5
def RetTow (s : Strm) (A O : Option Addr) (n c no co : Nat) (eb er : Int) (w : World) (e : Ending) (w' : World) : Prop :=
  (eb = 0 → e = .returned (.tuple #[.agg #[.int .i64 s.head, .slice A n c, .int .i64 s.lane.lo, .int .i64 s.lane.hi, .int .i64 s.bend, .slice O no co], .int .i64 er])) ∧
  (eb ≠ 0 → e = .returned (.tuple #[.agg #[.int .i64 0, .slice none 0 0, .int .i64 0, .int .i64 0, .int .i64 0, .slice none 0 0], .int .i64 er])) ∧ Below w.heap.size w w'
/-! watched -/
end Go.Proofs.YtfengddpfeneiaaGreat
namespace Go.Proofs.YtfengddpfeneiaaGreat
open Go.RowKit Go.Shelf

end Go.Proofs.YtfengddpfeneiaaGreat
namespace Go.Proofs.YtfengddpfeneiaaGreat
set_option linter.unusedSimpArgs false
set_option linter.unusedVariables false
open Go.RowKit Go.Shelf

/-! What is kept in a step with a choice; the best choice of a step; the plan. -/
def keptN (s : Strm) (bs : List Bnd) (l : List Wat) (ch : List Int) (i k : Nat) : Bool := !bentN s bs l i && !pulledS s (encAt s bs l (i + 1)) (ch.getD k 0) (l.getD i wat0).alo
def pickTo (f : Nat → Bool) (ch : List Int) : Nat → Int
  | 0 => -1
  | k + 1 => if f k = true then (if pickTo f ch k < 0 then (k : Int) else if ch.getD (pickTo f ch k).toNat 0 < ch.getD k 0 then (k : Int) else pickTo f ch k) else pickTo f ch k
def runPlan (p : Nat → Int) (ch : List Int) (nd : Nat) : Nat → List Int → Int → Bool × List Int × Int
  | 0, plan, way => (true, plan, way)
  | r + 1, plan, way => if p (nd - (r + 1)) < 0 then (false, plan, way) else runPlan p ch nd r (plan ++ [p (nd - (r + 1))]) (way + ch.getD (p (nd - (r + 1))).toNat 0)
def fastR (s : Strm) (bs : List Bnd) (l : List Wat) (ch : List Int) : List Int × Int × Int :=
  if errBW s bs l ≠ 0 then ([], 0, errBW s bs l)
  else if ¬ (1 ≤ l.length ∧ l.length ≤ 6 ∧ 1 ≤ ch.length ∧ ch.length ≤ 4) then ([], 0, 3)
  else if okSpeeds ch = false then ([], 0, 34)
  else
    let r := runPlan (fun i => pickTo (keptN s bs l ch i) ch ch.length) ch l.length l.length [] 0
    if r.1 = true then (r.2.1, r.2.2, 0) else ([], 0, 4)

end Go.Proofs.YtfengddpfeneiaaGreat
namespace Go.Proofs.YtfengddpfeneiaaGreat
set_option linter.unusedSimpArgs false
set_option linter.unusedVariables false
open Go.RowKit Go.Shelf
attribute [local go_sem] Oper.semAt_some

/-! What the map says when step k has come as far as choice j. -/
def fmap (kept : Nat → Nat → Bool) (nc k j : Nat) : Nat → Nat → Bool := fun i q => decide ((i < k ∧ q < nc) ∨ (i = k ∧ q < j)) && kept i q
def RetFast (r : List Int × Int × Int) (w : World) (e : Ending) (w' : World) : Prop :=
  ∃ P pn pc, e = .returned (.tuple #[.slice P pn pc, .int .i64 r.2.1, .int .i64 r.2.2]) ∧ SlAt w' w.heap.size 1 ivs P pn pc r.1 ∧ Below w.heap.size w w'
section
variable {s : Strm} {A O D C : Option Addr} {n c co nd cd nc cc gt g12 bm : Nat} {w W W' : World}
end
end Go.Proofs.YtfengddpfeneiaaGreat
namespace Go.Proofs.YtfengddpfeneiaaGreat
open Go.RowKit Go.Shelf
attribute [local go_sem] Oper.semAt_some
end Go.Proofs.YtfengddpfeneiaaGreat
namespace Go.Proofs.YtfengddpfeneiaaGreat
open Go.RowKit Go.Shelf
end Go.Proofs.YtfengddpfeneiaaGreat
namespace Go.Proofs.YtfengddpfeneiaaGreat
open Go.RowKit Go.Shelf
def cable0 : Strm := { head := 0, secs := [⟨100, 32, 0, 2, 5000⟩, ⟨100, 16, 5, 3, 3000⟩], lane := ⟨-20, 20⟩, bend := 30 }
end Go.Proofs.YtfengddpfeneiaaGreat
