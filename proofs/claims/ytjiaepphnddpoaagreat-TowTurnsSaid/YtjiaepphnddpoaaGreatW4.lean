/-
  Walks, fourth part: each at bounds; the bounds after a step, and of bends.
-/
import Derived.Test.YtjiaepphnddpoaaGreatW3
namespace Go.Proofs.YtjiaepphnddpoaaGreat
open Go.RowKit Go.Shelf

theorem grownBy_setCell (w : World) (p : Addr) (u : Value) : w.grownBy (w.setCell p u) (some p.block) :=
  ⟨rfl, rfl, rfl, by simp [World.setCell], fun k _ hk => Below.heap_setCell w p u k (fun e => hk (by rw [e]))⟩
theorem ownsRow_setCell {w : World} {base : Nat} {e : TypeId} {size : Nat} {v : Value} {n : Nat} {xs : List Value} (h : w.ownsRow base e size v n xs) {p : Addr} (hp : v.ownBlock ≠ some p.block) (u : Value) : (w.setCell p u).ownsRow base e size v n xs :=
  h.kept (grownBy_setCell w p u) (.inr hp)
theorem flatMap_set2 : ∀ (l : List Bnd) (k : Nat) (x : Bnd), ((l.flatMap Bnd.cells).set (k * 2) (.int .i64 x.lo)).set (k * 2 + 1) (.int .i64 x.hi) = (l.set k x).flatMap Bnd.cells
  | [], k, x => by simp
  | y :: l, 0, x => by simp [Bnd.cells, List.flatMap_cons]
  | y :: l, k + 1, x => by
    rw [List.set_cons_succ, List.flatMap_cons, List.flatMap_cons, ← flatMap_set2 l k x]
    simp only [Bnd.cells, List.cons_append, List.nil_append]
    rw [show (k + 1) * 2 = k * 2 + 1 + 1 from by omega]
    rw [List.set_cons_succ, List.set_cons_succ, List.set_cons_succ, List.set_cons_succ]
theorem flatMap_bnd_len (l : List Bnd) : (l.flatMap Bnd.cells).length = l.length * 2 := by
  induction l with
  | nil => rfl
  | cons x l ih => rw [List.flatMap_cons, List.length_append, ih]; simp [Bnd.cells]; omega
theorem madeCells_bnd (n : Nat) : (madeCells (Value.agg #[.int .i64 0, .int .i64 0]).cells (n * 2)).toList = (List.replicate n (⟨0, 0⟩ : Bnd)).flatMap Bnd.cells := by
  apply List.ext_getElem?
  intro j
  have e : (List.replicate n (⟨0, 0⟩ : Bnd)).flatMap Bnd.cells = List.replicate (n * 2) (.int .i64 0) := by
    induction n with
    | zero => rfl
    | succ n ih => rw [List.replicate_succ, List.flatMap_cons, ih, show (n + 1) * 2 = n * 2 + 1 + 1 from by omega, List.replicate_succ, List.replicate_succ]; rfl
  rw [e]
  by_cases hj : j < n * 2
  · have hm : j % 2 = 0 ∨ j % 2 = 1 := by omega
    rcases hm with hm | hm <;> simp [madeCells, hj, hm, Value.cells]
  · simp [madeCells, hj]
theorem Tryz.infoBnd : (Tryz.prog.info? 24).map (fun i => (i.zero, i.size, i.bytes)) = some (some (.agg #[.int .i64 0, .int .i64 0]), 2, 16) := by kernel_rfl

/-- What is handed to each is at every index, and every own and former bound, in every later world, a bound. -/
def FnBnd (g : Nat) (lb : Array Value) (f : Nat → Bnd → Bnd → Bnd) (l : List Bnd) (h : Bnd) (w : World) : Prop :=
  ∀ (W : World) (i : Nat), Below w.heap.size w W → i < l.length → Calls Tryz.prog g (#[.int .i64 (i : Int), .agg #[.int .i64 (l.getD i h).lo, .int .i64 (l.getD i h).hi], .agg #[.int .i64 (prev h l i).lo, .int .i64 (prev h l i).hi]] ++ lb) W fun e w' =>
    e = .returned (.agg #[.int .i64 (f i (l.getD i h) (prev h l i)).lo, .int .i64 (f i (l.getD i h) (prev h l i)).hi]) ∧ Below W.heap.size W w'
/-- A row of bounds of the call's own. -/
def OwnBnds (w0 : World) (n : Nat) (L : List Bnd) (e : Ending) (w' : World) : Prop :=
  ∃ O co, e = .returned (.slice O n co) ∧ w'.ownsRow w0.heap.size 24 2 (.slice O n co) n (L.flatMap Bnd.cells) ∧ SlAt w' w0.heap.size 2 Bnd.cells O n co L ∧ Below w0.heap.size w0 w'
theorem ownsRow_base {w : World} {base base' : Nat} {e : TypeId} {size : Nat} {v : Value} {n : Nat} {xs : List Value} (h : w.ownsRow base e size v n xs) (hb : base' ≤ base) : w.ownsRow base' e size v n xs := by
  refine ⟨h.1, ?_⟩
  rcases h.2 with h2 | ⟨g, cap, cur, hv, hg, r⟩
  · exact .inl h2
  · exact .inr ⟨g, cap, cur, hv, by omega, r⟩
theorem OwnBnds.lift {w w1 w' : World} {n : Nat} {L : List Bnd} {e : Ending} (h : OwnBnds w1 n L e w') (hb : Below w.heap.size w w1) : OwnBnds w n L e w' := by
  obtain ⟨O, co, rfl, hown, hr, hb2⟩ := h
  exact ⟨O, co, rfl, ownsRow_base hown hb.size, hr.mono hb.size, hb.trans (hb2.mono hb.size)⟩
set_option maxRecDepth 100000 in
set_option maxHeartbeats 2000000 in
theorem eachbnd_any (f : Nat → Bnd → Bnd → Bnd) (l : List Bnd) (h : Bnd) (A : Option Addr) (n c B g : Nat) (lb : Array Value) (eg : ∀ args w, (callFunc g args).run Tryz.prog w = .ok (.enter g args) w) (w : World)
    (hf : FnBnd g lb f l h w) (hs : SlAt w B 2 Bnd.cells A n c l) :
    Calls Tryz.prog 143 #[.slice A n c, .agg #[.int .i64 h.lo, .int .i64 h.hi], .func (.func g) #[] lb] w (OwnBnds w n (eachL f h l)) := by
  have hn := Lib.hid hs.le
  have hl := Lib.hid hs.len
  obtain ⟨i0, hi0, hz0, hz1, hz2⟩ := info_parts Tryz.infoBnd
  have hc1 := Lib.hid (show i0.bytes * n ≤ 281474976710656 by have := hn.out; rw [hz2]; omega)
  have hc2 := Lib.hid (show n ≤ maxLen by have := hn.out; unfold maxLen; omega)
  go_enter Tryz.func143, Tryz.ntmps143
  go_wp2_with (at_make; refine wpList_make_full _ rfl _ _ 27 rfl w.heap.size 24 i0 (.agg #[.int .i64 0, .int .i64 0]) 2 Tryz.underlying27 hi0 hz0 hz1 _ _ _ _ n rfl rfl rfl rfl hc1.out hc2.out (by simp) ?_; intro w1 hown hgrow; have k4 := (Blk.new w _ _).grown hgrow (by simp); obtain ⟨c4, f4, l4⟩ := k4.rules)
  have hL : (eachL f h l).length = n := by rw [eachL_length, hl.out]
  rw [World.size_alloc] at hown
  have hown0 : w1.ownsRow w.heap.size 24 2 (.slice (some ⟨w.heap.size + 1, 0, none⟩) n n) n ((fillTo (eachL f h l) 0 ⟨0, 0⟩).flatMap Bnd.cells) := by
    rw [fillTo_zero, hL]
    rw [madeCells_bnd] at hown
    exact hown
  have hb1 : Below w.heap.size w w1 := ((Below.refl _ _).alloc (Nat.le_refl _) _).grown hgrow (by simp) (fun k e => by cases e)
  have hlt1 : w.heap.size + 1 < w1.heap.size := (hown.lt _ rfl).2
  have hL' := Lib.hid hL
  clear hown hgrow hL hz0 hz1 hz2 hi0 c4 f4 l4 k4
  have hn' := hn.out
  go_loopw [17] (fun i wr => ∃ k : Nat, i = .int .i64 k ∧ k ≤ n ∧ Blk wr w1.heap.size 24 #[.int .i64 (prev h l k).lo, .int .i64 (prev h l k).hi] ∧ wr.ownsRow w.heap.size 24 2 (.slice (some ⟨w.heap.size + 1, 0, none⟩) n n) n ((fillTo (eachL f h l) k ⟨0, 0⟩).flatMap Bnd.cells) ∧ Below w.heap.size w wr) (fun i wr => n - (intOf i).toNat)
  case atStart =>
    exact ⟨0, rfl, Nat.zero_le _, Blk.new _ _ _, hown0.alloc _, hb1.alloc hb1.size _⟩
  case round =>
    obtain ⟨k, rfl, hk, k8, hown, hb⟩ := hrel
    by_cases hlt : k < n
    · have hcall := fun W (h : Below w.heap.size w W) => hf W k h (by have := hl.out; omega)
      have hget := Lib.hid (eachL_get f h l (i := k) (by have := hl.out; omega))
      obtain ⟨b, off, rfl, -, hbl, c0, c1⟩ := (hs.keep hb.size (fun _ _ h => hb.cell h)).bnd (getD_get (l := l) h (i := k) (by have := hl.out; omega))
      have hpk : Hid (prev h l (k + 1) = l.getD k h) := rfl
      obtain ⟨c8, f8, l8⟩ := k8.rules
      generalize f k (l.getD k h) (prev h l k) = z at hget hcall
      generalize prev h l k = y at hcall k8 c8
      generalize l.getD k h = x at hcall c0 c1 hpk
      have n1 : ¬ wr.heap.size = w.heap.size + 1 := by omega
      have n2 : ¬ wr.heap.size = w1.heap.size := by omega
      have n3 : ¬ w1.heap.size = w.heap.size + 1 := by omega
      have n1' : ¬ w.heap.size + 1 = wr.heap.size := by omega
      have n2' : ¬ w1.heap.size = wr.heap.size := by omega
      have n3' : ¬ w.heap.size + 1 = w1.heap.size := by omega
      clear hs hf
      go_wp2_with fail
      refine (hcall _ (hb.alloc hb.size _)).mono ?_
      clear hcall c0 c1 c8 f8
      rintro e w' ⟨rfl, hb'⟩
      have hown2 := ownsRow_below (hown.alloc _) hb'
      obtain ⟨v0, d0⟩ := own_cell hown2 (j := k * 2) (by omega)
      obtain ⟨v1, d1⟩ := own_cell hown2 (j := k * 2 + 1) (by omega)
      have e0 := hown2.frozenAt (k * 2)
      have e1 := hown2.frozenAt (k * 2 + 1)
      have k10 := (Blk.new wr _ _).below hb'
      obtain ⟨c10, f10, l10⟩ := k10.rules
      have k8' := (k8.alloc _).below hb'
      obtain ⟨c8, f8, l8'⟩ := k8'.rules
      go_wp2
      have hown3 := ((hown2.stored (k * 2) (.int .i64 z.lo)).1.stored (k * 2 + 1) (.int .i64 z.hi)).1
      rw [flatMap_set2, fillTo_set hget.out] at hown3
      go_roundw
      case rel =>
        refine ⟨k + 1, by go_num, by omega, ?_, ownsRow_setCell (ownsRow_setCell hown3 (by simp [Value.ownBlock]; omega) _) (by simp [Value.ownBlock]; omega) _, ?_⟩
        · rw [hpk.out]
          have := (((k8'.far (p := ⟨w.heap.size + 1, k * 2, none⟩) n3 (.int .i64 z.lo)).far (p := ⟨w.heap.size + 1, k * 2 + 1, none⟩) n3 (.int .i64 z.hi)).set_ 0 (.int .i64 x.lo)).set_ 1 (.int .i64 x.hi)
          exact this
        · exact (((((hb.alloc hb.size _).trans (hb'.mono (by simp; omega))).setCell (p := ⟨w.heap.size + 1, k * 2, none⟩) (by simp) _).setCell (p := ⟨w.heap.size + 1, k * 2 + 1, none⟩) (by simp) _).setCell (p := ⟨w1.heap.size, 0, none⟩) (by simp; omega) _).setCell (p := ⟨w1.heap.size, 1, none⟩) (by simp; omega) _
      case measure => simp [intOf]; omega
    · obtain rfl : k = n := by omega
      go_wp2
      go_ret
      rw [fillTo_len _ hL'.out] at hown
      obtain ⟨O, co, e1, h1⟩ := SlAt.of_own (enc := Bnd.cells) hown hn' (eachL f h l) rfl (fun _ => rfl) hL'.out
      exact ⟨O, co, congrArg Ending.returned e1, e1 ▸ hown, h1, hb⟩

set_option maxHeartbeats 400000 in
theorem still_any (m : Int) (w : World) :
    Calls Tryz.prog 144 #[.int .i64 m] w fun e w' => e = .returned (.agg #[.int .i64 (still m).lo, .int .i64 (still m).hi]) ∧ Below w.heap.size w w' := by
  go_enter Tryz.func144, Tryz.ntmps144
  go_wp2
  exact bodyPost_ret (v := .agg #[.int .i64 m, .int .i64 m]) (by simp [results, Tryz.results144, go_sem]) rfl ⟨rfl, (Below.refl _ _).alloc (Nat.le_refl _) _⟩
set_option maxRecDepth 100000 in
set_option maxHeartbeats 2000000 in
theorem bends1_any (i : Int) (own bef : Bnd) (w : World) (h1 : -16384 ≤ own.lo) (h2 : own.lo ≤ own.hi) (h3 : own.hi ≤ 16384) (h4 : -16384 ≤ bef.lo) (h5 : bef.lo ≤ bef.hi) (h6 : bef.hi ≤ 16384) :
    Calls Tryz.prog 156 #[.int .i64 i, .agg #[.int .i64 own.lo, .int .i64 own.hi], .agg #[.int .i64 bef.lo, .int .i64 bef.hi]] w fun e w' => e = .returned (.agg #[.int .i64 (bendB own bef).lo, .int .i64 (bendB own bef).hi]) ∧ Below w.heap.size w w' := by
  go_enter Tryz.func156, Tryz.ntmps156
  go_wp2
  all_goals
    refine bodyPost_ret (v := .agg #[.int .i64 (bendB own bef).lo, .int .i64 (bendB own bef).hi]) ?_ rfl ⟨rfl, (((Below.refl _ _).alloc (Nat.le_refl _) _).alloc (by simp) _).alloc (by simp; omega) _⟩
    simp [results, Tryz.results156, go_sem, bendB]
    omega
set_option maxHeartbeats 400000 in
theorem endslo_any (b : Bnd) (w : World) :
    Calls Tryz.prog 146 #[.agg #[.int .i64 b.lo, .int .i64 b.hi]] w fun e w' => e = .returned (.int .i64 b.lo) ∧ Below w.heap.size w w' := by
  go_enter Tryz.func146, Tryz.ntmps146
  go_wp2
  go_ret
  exact ⟨rfl, (Below.refl _ _).alloc (Nat.le_refl _) _⟩
set_option maxHeartbeats 400000 in
theorem endshi_any (b : Bnd) (w : World) :
    Calls Tryz.prog 147 #[.agg #[.int .i64 b.lo, .int .i64 b.hi]] w fun e w' => e = .returned (.int .i64 b.hi) ∧ Below w.heap.size w w' := by
  go_enter Tryz.func147, Tryz.ntmps147
  go_wp2
  go_ret
  exact ⟨rfl, (Below.refl _ _).alloc (Nat.le_refl _) _⟩

def okB (b : Bnd) : Prop := -16384 ≤ b.lo ∧ b.lo ≤ b.hi ∧ b.hi ≤ 16384
theorem okB_of {l : List Bnd} {h : Bnd} (hl : l.all (okBnd 16384) = true) (hh : okB h) (k : Nat) : okB (l.getD k h) := by
  rw [List.getD_eq_getElem?_getD]
  by_cases hi : k < l.length
  · rw [List.getElem?_eq_getElem hi]
    have := List.all_eq_true.1 hl _ (List.getElem_mem hi)
    simpa [okBnd, okB] using this
  · rw [List.getElem?_eq_none (by omega)]
    exact hh
theorem okB_prev {l : List Bnd} {h : Bnd} (hl : l.all (okBnd 16384) = true) (hh : okB h) (k : Nat) : okB (prev h l k) := by
  cases k with
  | zero => exact hh
  | succ k => exact okB_of hl hh k
theorem okB_still {s : Strm} (h : headOk s) : okB (still s.head) := by unfold headOk at h; unfold okB still; simp only; omega
theorem okOffs_len {s : Strm} {l : List Bnd} (h : okOffs s l = true) : l.length = s.secs.length := by
  unfold okOffs at h; simp only [Bool.and_eq_true, decide_eq_true_eq] at h; exact h.1
theorem okOffs_all {s : Strm} {l : List Bnd} (h : okOffs s l = true) : l.all (okBnd 16384) = true := by
  unfold okOffs at h; simp only [Bool.and_eq_true] at h; exact h.2
theorem eg_bends1 : Enters Tryz.prog 156 := enters_of Tryz.func156 (by kernel_rfl) rfl
set_option maxRecDepth 100000 in
set_option maxHeartbeats 2000000 in
theorem bends_any (s : Strm) (A O : Option Addr) (n c no co B : Nat) (l : List Bnd) (w : World) (ho : headOk s) (hl : l.all (okBnd 16384) = true) (hs : SlAt w B 2 Bnd.cells O no co l) :
    Calls Tryz.prog 106 #[.agg #[.int .i64 s.head, .slice A n c, .int .i64 s.lane.lo, .int .i64 s.lane.hi, .int .i64 s.bend], .slice O no co] w (OwnBnds w no (bendL s l)) := by
  replace ho := Lib.hid ho
  replace hl := Lib.hid hl
  go_enter Tryz.func106, Tryz.ntmps106
  go_wp2_with fail
  refine (still_any s.head _).mono ?_; rintro e w1 ⟨rfl, hb1⟩
  have b1 := ((Below.refl w.heap.size w).alloc (Nat.le_refl _) _).trans (hb1.mono (by simp))
  go_wp2_with fail
  have hfn : FnBnd 156 #[] (fun _ own bef => bendB own bef) l (still s.head) w1 := by
    intro W i hb hi
    obtain ⟨q1, q2, q3⟩ := okB_of hl.out (okB_still ho.out) i
    obtain ⟨q4, q5, q6⟩ := okB_prev hl.out (okB_still ho.out) i
    exact bends1_any i _ _ W q1 q2 q3 q4 q5 q6
  refine (eachbnd_any _ l (still s.head) O no co B _ _ eg_bends1 w1 hfn ((hs.alloc _).below hb1)).mono ?_
  rintro e w2 ⟨O', co', rfl, hown, hr, hb2⟩
  go_wp2
  go_ret
  exact OwnBnds.lift ⟨O', co', rfl, hown, hr, hb2⟩ b1

end Go.Proofs.YtjiaepphnddpoaaGreat
