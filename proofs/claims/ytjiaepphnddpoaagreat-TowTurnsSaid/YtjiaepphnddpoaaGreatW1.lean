/-
  Walks, first part: small functions of tow, and slices.IndexFunc and ContainsFunc at three element types.
-/
import Derived.Test.YtjiaepphnddpoaaGreatChecked
import Derived.Test.YtjiaepphnddpoaaGreatBase
import Derived.Shelf.Abstract
namespace Go.Proofs.YtjiaepphnddpoaaGreat
open Go.RowKit Go.Shelf

/-- A predicate that is handed to the library: at every x, in every later world, it says p x and turns nothing that was there. -/
def PredB {α : Type} (g : Nat) (lb : Array Value) (enc : α → Value) (p : α → Bool) (w : World) : Prop :=
  ∀ (W : World) (x : α), Below w.heap.size w W → Calls Tryz.prog g (#[enc x] ++ lb) W fun e w' => e = .returned (.bool (p x)) ∧ Below W.heap.size W w'

/-- Where a predicate holds first; -1: nowhere. -/
def idxf {α : Type} (p : α → Bool) : List α → Nat → Int
  | [], _ => -1
  | x :: xs, k => if p x then k else idxf p xs (k + 1)
theorem idxf_hit {α : Type} (p : α → Bool) : ∀ (xs : List α) (j k : Nat) (x : α), xs[k]? = some x → p x = true → (xs.take k).any p = false → idxf p xs j = (j + k : Nat)
  | [], _, _, _, h, _, _ => by simp at h
  | y :: ys, j, 0, x, h, hp, _ => by simp at h; subst h; simp [idxf, hp]
  | y :: ys, j, k + 1, x, h, hp, ha => by
    simp only [List.take_succ_cons, List.any_cons, Bool.or_eq_false_iff] at ha
    rw [idxf, if_neg (by simp [ha.1]), idxf_hit p ys (j + 1) k x (by simpa using h) hp ha.2]
    omega
theorem idxf_miss {α : Type} (p : α → Bool) : ∀ (xs : List α) (j : Nat), xs.any p = false → idxf p xs j = -1
  | [], _, _ => rfl
  | y :: ys, j, h => by
    simp only [List.any_cons, Bool.or_eq_false_iff] at h
    rw [idxf, if_neg (by simp [h.1]), idxf_miss p ys (j + 1) h.2]
theorem idxf_any {α : Type} (p : α → Bool) : ∀ (xs : List α) (j : Nat), decide (0 ≤ idxf p xs j) = xs.any p
  | [], _ => rfl
  | y :: ys, j => by
    rw [idxf, List.any_cons]
    by_cases h : p y = true
    · rw [if_pos h, h]; simp
    · rw [if_neg h, idxf_any p ys (j + 1)]; simp [h]
def noneTo {α : Type} (p : α → Bool) (xs : List α) (k : Nat) : Prop := (xs.take k).any p = false
theorem noneTo_succ {α : Type} {p : α → Bool} {xs : List α} {k : Nat} {x : α} (h : noneTo p xs k) (hx : xs[k]? = some x) (hp : p x = false) : noneTo p xs (k + 1) := by
  unfold noneTo at *
  rw [List.take_add_one, hx]; simp [h, hp]
theorem noneTo_all {α : Type} {p : α → Bool} {xs : List α} {k : Nat} (h : noneTo p xs k) (hk : xs.length ≤ k) : xs.any p = false := by
  unfold noneTo at h; rwa [List.take_of_length_le hk] at h
theorem some_of_lt {α : Type} {xs : List α} {k n : Nat} (h : xs.length = n) (hk : k < n) : ∃ x, xs[k]? = some x := ⟨_, List.getElem?_eq_getElem (by omega)⟩

set_option maxHeartbeats 1000000 in
theorem index_int (p : Int → Bool) (A : Option Addr) (n c B g : Nat) (lb : Array Value) (eg : ∀ args w, (callFunc g args).run Tryz.prog w = .ok (.enter g args) w) (xs : List Int) (w : World)
    (hp : PredB g lb (fun n => Value.int .i64 n) p w) (hs : SlAt w B 1 ivs A n c xs) :
    Calls Tryz.prog 162 #[.slice A n c, .func (.func g) #[] lb] w fun e w' => e = .returned (.int .i64 (idxf p xs 0)) ∧ Below w.heap.size w w' := by
  have hn := hs.le
  have hl := Lib.hid hs.len
  go_enter Tryz.func162, Tryz.ntmps162
  go_wp2
  go_loopw [8] (fun i wr => ∃ k : Nat, i = .int .i64 k ∧ k ≤ n ∧ noneTo p xs k ∧ Below w.heap.size w wr) (fun i wr => n - (intOf i).toNat)
  case atStart => exact ⟨0, rfl, Nat.zero_le _, by simp [noneTo], Below.refl _ _⟩
  case round =>
    obtain ⟨k, rfl, hk, hno, hb⟩ := hrel
    by_cases hlt : k < n
    · obtain ⟨x, hx⟩ := some_of_lt hl.out hlt
      have hcall := hp wr x hb
      obtain ⟨b, off, rfl, -, hbl, c0⟩ := (hs.keep hb.size (fun _ _ h => hb.cell h)).int hx
      replace hx := Lib.hid hx
      clear hs hp
      cases hq : p x with
      | true =>
        rw [hq] at hcall
        replace hq := Lib.hid hq
        go_wp2_with (go_at_fn g; refine hcall.mono ?_; rintro e w' ⟨rfl, hb'⟩)
        go_ret
        exact ⟨ret_int (by rw [idxf_hit p xs 0 k x hx.out hq.out hno]; omega), hb.trans (hb'.mono hb.size)⟩
      | false =>
        rw [hq] at hcall
        replace hq := Lib.hid hq
        go_wp2_with (go_at_fn g; refine hcall.mono ?_; rintro e w' ⟨rfl, hb'⟩)
        go_roundw
        case rel => exact ⟨k + 1, by go_num, by omega, noneTo_succ hno hx.out hq.out, hb.trans (hb'.mono hb.size)⟩
        case measure => simp [intOf]; omega
    · go_wp2
      go_ret
      exact ⟨ret_int (by rw [idxf_miss p xs 0 (noneTo_all hno (by have := hl.out; omega))]), hb⟩
set_option maxHeartbeats 1000000 in
theorem contains_int (p : Int → Bool) (A : Option Addr) (n c B g : Nat) (lb : Array Value) (eg : ∀ args w, (callFunc g args).run Tryz.prog w = .ok (.enter g args) w) (xs : List Int) (w : World)
    (hp : PredB g lb (fun n => Value.int .i64 n) p w) (hs : SlAt w B 1 ivs A n c xs) :
    Calls Tryz.prog 117 #[.slice A n c, .func (.func g) #[] lb] w fun e w' => e = .returned (.bool (xs.any p)) ∧ Below w.heap.size w w' := by
  go_enter Tryz.func117, Tryz.ntmps117
  go_wp2_with (go_at_call 162; refine (index_int p A n c B g lb eg xs _ hp hs).mono ?_; rintro e w' ⟨rfl, hb'⟩)
  go_ret
  exact ⟨ret_bool (idxf_any p xs 0), hb'⟩
set_option maxHeartbeats 1000000 in
theorem index_bnd (p : Bnd → Bool) (A : Option Addr) (n c B g : Nat) (lb : Array Value) (eg : ∀ args w, (callFunc g args).run Tryz.prog w = .ok (.enter g args) w) (xs : List Bnd) (w : World)
    (hp : PredB g lb (fun b => Value.agg #[.int .i64 b.lo, .int .i64 b.hi]) p w) (hs : SlAt w B 2 Bnd.cells A n c xs) :
    Calls Tryz.prog 163 #[.slice A n c, .func (.func g) #[] lb] w fun e w' => e = .returned (.int .i64 (idxf p xs 0)) ∧ Below w.heap.size w w' := by
  have hn := hs.le
  have hl := Lib.hid hs.len
  go_enter Tryz.func163, Tryz.ntmps163
  go_wp2
  go_loopw [8] (fun i wr => ∃ k : Nat, i = .int .i64 k ∧ k ≤ n ∧ noneTo p xs k ∧ Below w.heap.size w wr) (fun i wr => n - (intOf i).toNat)
  case atStart => exact ⟨0, rfl, Nat.zero_le _, by simp [noneTo], Below.refl _ _⟩
  case round =>
    obtain ⟨k, rfl, hk, hno, hb⟩ := hrel
    by_cases hlt : k < n
    · obtain ⟨x, hx⟩ := some_of_lt hl.out hlt
      have hcall := hp wr x hb
      obtain ⟨b, off, rfl, -, hbl, c0, c1⟩ := (hs.keep hb.size (fun _ _ h => hb.cell h)).bnd hx
      replace hx := Lib.hid hx
      clear hs hp
      cases hq : p x with
      | true =>
        rw [hq] at hcall
        replace hq := Lib.hid hq
        go_wp2_with (go_at_fn g; refine hcall.mono ?_; rintro e w' ⟨rfl, hb'⟩)
        go_ret
        exact ⟨ret_int (by rw [idxf_hit p xs 0 k x hx.out hq.out hno]; omega), hb.trans (hb'.mono hb.size)⟩
      | false =>
        rw [hq] at hcall
        replace hq := Lib.hid hq
        go_wp2_with (go_at_fn g; refine hcall.mono ?_; rintro e w' ⟨rfl, hb'⟩)
        go_roundw
        case rel => exact ⟨k + 1, by go_num, by omega, noneTo_succ hno hx.out hq.out, hb.trans (hb'.mono hb.size)⟩
        case measure => simp [intOf]; omega
    · go_wp2
      go_ret
      exact ⟨ret_int (by rw [idxf_miss p xs 0 (noneTo_all hno (by have := hl.out; omega))]), hb⟩
set_option maxHeartbeats 1000000 in
theorem contains_bnd (p : Bnd → Bool) (A : Option Addr) (n c B g : Nat) (lb : Array Value) (eg : ∀ args w, (callFunc g args).run Tryz.prog w = .ok (.enter g args) w) (xs : List Bnd) (w : World)
    (hp : PredB g lb (fun b => Value.agg #[.int .i64 b.lo, .int .i64 b.hi]) p w) (hs : SlAt w B 2 Bnd.cells A n c xs) :
    Calls Tryz.prog 120 #[.slice A n c, .func (.func g) #[] lb] w fun e w' => e = .returned (.bool (xs.any p)) ∧ Below w.heap.size w w' := by
  go_enter Tryz.func120, Tryz.ntmps120
  go_wp2_with (go_at_call 163; refine (index_bnd p A n c B g lb eg xs _ hp hs).mono ?_; rintro e w' ⟨rfl, hb'⟩)
  go_ret
  exact ⟨ret_bool (idxf_any p xs 0), hb'⟩
set_option maxHeartbeats 1000000 in
theorem index_wat (p : Wat → Bool) (A : Option Addr) (n c B g : Nat) (lb : Array Value) (eg : ∀ args w, (callFunc g args).run Tryz.prog w = .ok (.enter g args) w) (xs : List Wat) (w : World)
    (hp : PredB g lb (fun x => Value.agg #[.int .i64 x.acr.lo, .int .i64 x.acr.hi, .int .i64 x.alo.lo, .int .i64 x.alo.hi]) p w) (hs : SlAt w B 4 Wat.cells A n c xs) :
    Calls Tryz.prog 105 #[.slice A n c, .func (.func g) #[] lb] w fun e w' => e = .returned (.int .i64 (idxf p xs 0)) ∧ Below w.heap.size w w' := by
  have hn := hs.le
  have hl := Lib.hid hs.len
  go_enter Tryz.func105, Tryz.ntmps105
  go_wp2
  go_loopw [8] (fun i wr => ∃ k : Nat, i = .int .i64 k ∧ k ≤ n ∧ noneTo p xs k ∧ Below w.heap.size w wr) (fun i wr => n - (intOf i).toNat)
  case atStart => exact ⟨0, rfl, Nat.zero_le _, by simp [noneTo], Below.refl _ _⟩
  case round =>
    obtain ⟨k, rfl, hk, hno, hb⟩ := hrel
    by_cases hlt : k < n
    · obtain ⟨x, hx⟩ := some_of_lt hl.out hlt
      have hcall := hp wr x hb
      obtain ⟨b, off, rfl, -, hbl, c0, c1, c2, c3⟩ := (hs.keep hb.size (fun _ _ h => hb.cell h)).wat hx
      replace hx := Lib.hid hx
      clear hs hp
      cases hq : p x with
      | true =>
        rw [hq] at hcall
        replace hq := Lib.hid hq
        go_wp2_with (go_at_fn g; refine hcall.mono ?_; rintro e w' ⟨rfl, hb'⟩)
        go_ret
        exact ⟨ret_int (by rw [idxf_hit p xs 0 k x hx.out hq.out hno]; omega), hb.trans (hb'.mono hb.size)⟩
      | false =>
        rw [hq] at hcall
        replace hq := Lib.hid hq
        go_wp2_with (go_at_fn g; refine hcall.mono ?_; rintro e w' ⟨rfl, hb'⟩)
        go_roundw
        case rel => exact ⟨k + 1, by go_num, by omega, noneTo_succ hno hx.out hq.out, hb.trans (hb'.mono hb.size)⟩
        case measure => simp [intOf]; omega
    · go_wp2
      go_ret
      exact ⟨ret_int (by rw [idxf_miss p xs 0 (noneTo_all hno (by have := hl.out; omega))]), hb⟩
set_option maxHeartbeats 1000000 in
theorem contains_wat (p : Wat → Bool) (A : Option Addr) (n c B g : Nat) (lb : Array Value) (eg : ∀ args w, (callFunc g args).run Tryz.prog w = .ok (.enter g args) w) (xs : List Wat) (w : World)
    (hp : PredB g lb (fun x => Value.agg #[.int .i64 x.acr.lo, .int .i64 x.acr.hi, .int .i64 x.alo.lo, .int .i64 x.alo.hi]) p w) (hs : SlAt w B 4 Wat.cells A n c xs) :
    Calls Tryz.prog 54 #[.slice A n c, .func (.func g) #[] lb] w fun e w' => e = .returned (.bool (xs.any p)) ∧ Below w.heap.size w w' := by
  go_enter Tryz.func54, Tryz.ntmps54
  go_wp2_with (go_at_call 105; refine (index_wat p A n c B g lb eg xs _ hp hs).mono ?_; rintro e w' ⟨rfl, hb'⟩)
  go_ret
  exact ⟨ret_bool (idxf_any p xs 0), hb'⟩
end Go.Proofs.YtjiaepphnddpoaaGreat
