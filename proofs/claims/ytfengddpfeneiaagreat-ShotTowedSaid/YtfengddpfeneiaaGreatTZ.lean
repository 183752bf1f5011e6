/-
  Walks: what the chapter says of headings and of turned regions.
  Walks: what the chapter says of tight regions.
  Walks: what the chapter says of turned regions.
  Walks: between what the values of an expression lie, less a number (specification); quotients rounded (package shot).
  Walks: Ways (package shot).
  Walks: the specification's root, whole plane, places.
  Walks: the specification's Move.
-/
import Derived.Test.YtfengddpfeneiaaGreatTM
import Derived.Test.YtfengddpfeneiaaGreatTY
import Derived.Test.YtfengddpfeneiaaGreatS1
import Derived.Test.YtfengddpfeneiaaGreatI2
namespace Go.Proofs.YtfengddpfeneiaaGreat
open Go.RowKit Go.Shelf
set_option linter.unusedSimpArgs false
set_option linter.unusedVariables false

/-! The hull of places. -/
structure Apart (g : Nat) (w w' : World) : Prop where
  low : Below g w w'
  far : ∀ b, g < b → b < w.heap.size → w'.heap[b]? = w.heap[b]?
theorem Apart.refl (g : Nat) (w : World) : Apart g w w := ⟨Below.refl _ _, fun _ _ _ => rfl⟩
theorem Apart.trans {g : Nat} {w w1 w2 : World} (h1 : Apart g w w1) (h2 : Apart g w1 w2) : Apart g w w2 :=
  ⟨h1.low.trans h2.low, fun b hb hl => (h2.far b hb (Nat.lt_of_lt_of_le hl h1.low.size)).trans (h1.far b hb hl)⟩
theorem Apart.of {g : Nat} {w w' : World} (h : Below w.heap.size w w') (hg : g ≤ w.heap.size) : Apart g w w' :=
  ⟨h.mono hg, fun b _ hl => h.block b hl⟩
theorem Apart.set {g : Nat} {w w' : World} (h : Apart g w w') (i : Nat) (u : Value) : Apart g w (w'.setCell ⟨g, i, none⟩ u) :=
  ⟨h.low.setCell (p := ⟨g, i, none⟩) (Nat.le_refl g) u, fun b hb hl => (Below.heap_setCell w' ⟨g, i, none⟩ u b (by dsimp only; omega)).trans (h.far b hb hl)⟩
theorem Apart.set8 {g : Nat} {w w' : World} (h : Apart g w w') (v0 v1 v2 v3 v4 v5 v6 v7 : Value) : Apart g w (set8 w' g v0 v1 v2 v3 v4 v5 v6 v7) :=
  (((((((h.set 0 v0).set 1 v1).set 2 v2).set 3 v3).set 4 v4).set 5 v5).set 6 v6).set 7 v7
def hullA (o : Option Reg) : Array Value := #[.int .i64 (optR o).x.lo, .int .i64 (optR o).x.hi, .int .i64 (optR o).y.lo, .int .i64 (optR o).y.hi, .int .i64 (optR o).s.lo, .int .i64 (optR o).s.hi, .int .i64 (optR o).d.lo, .int .i64 (optR o).d.hi, .bool o.isSome]
end Go.Proofs.YtfengddpfeneiaaGreat
namespace Go.Proofs.YtfengddpfeneiaaGreat
open Go.RowKit Go.Shelf
set_option linter.unusedSimpArgs false
set_option linter.unusedVariables false

def fullTo (r : Reg) (o : Option Reg) (j : Nat) : Option Reg := ((rowsTo r j).flatMap rowPts).foldl addP o
end Go.Proofs.YtfengddpfeneiaaGreat
namespace Go.Proofs.YtfengddpfeneiaaGreat
open Go.RowKit Go.Shelf
set_option linter.unusedSimpArgs false
set_option linter.unusedVariables false

def addN : Option Bnd → Int → Option Bnd
  | none, n => some ⟨n, n⟩
  | some b, n => some ⟨min b.lo n, max b.hi n⟩
def inn (o : Option Bnd) (a b : Int) : Nat → Option Bnd
  | 0 => o
  | 1 => addN o a
  | _ => addN (addN o a) b
end Go.Proofs.YtfengddpfeneiaaGreat
namespace Go.Proofs.YtfengddpfeneiaaGreat
open Go.RowKit Go.Shelf
set_option linter.unusedSimpArgs false
set_option linter.unusedVariables false

def spanW (r : Reg) (c p q ls : Int) : Bnd := ⟨floorS ((extB r p q).lo - ls) c, ceilS ((extB r p q).hi - ls) c⟩
def shO (ls : Int) (o : Option Bnd) : Option Bnd := o.map fun B => ⟨B.lo - ls, B.hi - ls⟩
set_option maxHeartbeats 1000000 in
theorem sfloor_any (a b : Int) (w : World) (h1 : -1000000000000 ≤ a) (h2 : a ≤ 1000000000000) (h3 : 1 ≤ b) (h4 : b ≤ 1000000) :
    Calls Tryz.prog 28 #[.int .i64 a, .int .i64 b] w fun e w' => e = .returned (.int .i64 (floorS a b)) ∧ w = w' := by
  obtain ⟨s1, s2, s3, s4, s5⟩ := tdiv_spec a b (by omega)
  have hq : a.tdiv b ≤ 2000000000000 ∧ -2000000000000 ≤ a.tdiv b := by
    rcases Int.le_total 0 (a.tdiv b) with h | h
    · have := Int.mul_le_mul_of_nonneg_right h3 h
      omega
    · have := Int.mul_le_mul_of_nonpos_right h3 h
      omega
  obtain ⟨q1, q2⟩ := hq
  by_cases hn : a.tmod b < 0
  · have e : Hid (floorS a b = a.tdiv b - 1) := ediv_of a b (a.tdiv b - 1) (a.tmod b + b) (by omega) (by rw [Int.mul_sub]; omega) (by omega) (by omega)
    have t1 := IntWalk.i64_in (a.tdiv b - 1) (by omega)
    clear s1 s2 s3 s4 s5
    go_enter Tryz.func28, Tryz.ntmps28
    go_wp2
    go_ret
    exact ⟨ret_int e.out.symm, rfl⟩
  · have e : Hid (floorS a b = a.tdiv b) := ediv_of a b (a.tdiv b) (a.tmod b) (by omega) (by omega) (by omega) (by omega)
    clear s1 s2 s3 s4 s5
    go_enter Tryz.func28, Tryz.ntmps28
    go_wp2
    go_ret
    exact ⟨ret_int e.out.symm, rfl⟩
set_option maxHeartbeats 400000 in
theorem sceil_any (a b : Int) (w : World) (h1 : -1000000000000 ≤ a) (h2 : a ≤ 1000000000000) (h3 : 1 ≤ b) (h4 : b ≤ 1000000) :
    Calls Tryz.prog 29 #[.int .i64 a, .int .i64 b] w fun e w' => e = .returned (.int .i64 (ceilS a b)) ∧ w = w' := by
  have hfl := fun W => sfloor_any (-a) b W (by omega) (by omega) h3 h4
  have e : Hid (ceilS a b = -floorS (-a) b) := rfl
  have hb : -2000000000000 ≤ floorS (-a) b ∧ floorS (-a) b ≤ 2000000000000 := by
    unfold floorS
    have e1 := Int.mul_ediv_add_emod (-a) b
    have e2 := Int.emod_nonneg (-a) (b := b) (by omega)
    have e3 := Int.emod_lt_of_pos (-a) (b := b) (by omega)
    rcases Int.le_total 0 ((-a) / b) with h | h
    · have := Int.mul_le_mul_of_nonneg_right h3 h
      omega
    · have := Int.mul_le_mul_of_nonpos_right h3 h
      omega
  go_enter Tryz.func29, Tryz.ntmps29
  go_wp2_with (go_at_call 28; refine (hfl _).mono ?_; rintro e w' ⟨rfl, rfl⟩)
  go_ret
  exact ⟨ret_int (by rw [‹Hid (ceilS a b = _)›.out]), rfl⟩
end Go.Proofs.YtfengddpfeneiaaGreat
namespace Go.Proofs.YtfengddpfeneiaaGreat
open Go.RowKit Go.Shelf
set_option linter.unusedSimpArgs false
set_option linter.unusedVariables false

/-- Between what the distance along a heading lies. -/
def wayB (p : Pnt) (h : Hdg) (r : Reg) : Bnd := ⟨max 0 (spanW r h.c h.p h.q (h.p * p.x + h.q * p.y)).lo, max 0 (spanW r h.c h.p h.q (h.p * p.x + h.q * p.y)).hi⟩
def hasPl (h : Hdg) (r : Reg) : Bool := (extO (rowsL r) h.p h.q).isSome
def waysT (p : Pnt) (h : Hdg) (l : List Reg) : List Bnd × Int :=
  if l.all okReg = true then (if l.all (hasPl h) = true then (l.map (wayB p h), 0) else ([], 4)) else ([], 11)
def waysR (p : Pnt) (h : Hdg) (l : List Reg) : List Bnd × Int :=
  if okPnt p = true then (if okHdg h = true then (if 1 ≤ l.length ∧ l.length ≤ 512 then waysT p h l else ([], 53)) else ([], 35)) else ([], 10)
theorem hdg_bd {h : Hdg} (k : okHdg h = true) : (1 ≤ h.c ∧ h.c ≤ 1000) ∧ (-1000 ≤ h.p ∧ h.p ≤ 1000) ∧ (-1000 ≤ h.q ∧ h.q ≤ 1000) := by
  unfold okHdg at k
  have := of_decide_eq_true k
  omega
theorem pnt_bd {p : Pnt} (k : okPnt p = true) : (-32768 ≤ p.x ∧ p.x ≤ 32768) ∧ (-32768 ≤ p.y ∧ p.y ≤ 32768) := by
  unfold okPnt at k
  have := of_decide_eq_true k
  omega
theorem at_bd {p : Pnt} {h : Hdg} (k1 : okPnt p = true) (k2 : okHdg h = true) : (-32768000 ≤ h.p * p.x ∧ h.p * p.x ≤ 32768000) ∧ (-32768000 ≤ h.q * p.y ∧ h.q * p.y ≤ 32768000) := by
  obtain ⟨-, ⟨a1, a2⟩, a3, a4⟩ := hdg_bd k2
  obtain ⟨⟨b1, b2⟩, b3, b4⟩ := pnt_bd k1
  have h1 := smul_bd a1 a2 b1 b2
  have h2 := smul_bd a3 a4 b3 b4
  omega
theorem extO_bd {r : Reg} (hr : okReg r = true) {p q : Int} (hp : -1000 ≤ p ∧ p ≤ 1000) (hq : -1000 ≤ q ∧ q ≤ 1000) : (-1000000000 ≤ (extB r p q).lo ∧ (extB r p q).lo ≤ 1000000000) ∧ (-1000000000 ≤ (extB r p q).hi ∧ (extB r p q).hi ≤ 1000000000) := by
  have := extB_big hr (p := p) (q := q) ⟨by omega, by omega⟩ ⟨by omega, by omega⟩
  unfold bigB at this
  omega
theorem all_stop {α : Type} {f : α → Bool} {l : List α} {k : Nat} {x : α} (h : l[k]? = some x) (hx : f x = false) : l.all f = false := by
  rw [List.all_eq_false]
  exact ⟨x, List.mem_of_getElem? h, by rw [hx]; decide⟩
theorem all_take {α : Type} {f : α → Bool} {l : List α} {k : Nat} {x : α} (h0 : (l.take k).all f = true) (h : l[k]? = some x) (hx : f x = true) : (l.take (k + 1)).all f = true := by
  rw [List.take_add_one, h, List.all_append, h0]
  simpa using hx
theorem ext_of_has {h : Hdg} {r : Reg} (k : hasPl h r = true) : extE r h.p h.q = (extB r h.p h.q, 0) := by
  unfold hasPl at k
  unfold extE extB
  cases hx : extO (rowsL r) h.p h.q with
  | none => rw [hx] at k; cases k
  | some b => rfl
theorem ext_of_no {h : Hdg} {r : Reg} (k : hasPl h r = false) : extE r h.p h.q = (⟨0, 0⟩, 4) := by
  unfold hasPl at k
  unfold extE
  cases hx : extO (rowsL r) h.p h.q with
  | none => rfl
  | some b => rw [hx] at k; cases k
set_option maxRecDepth 100000 in
set_option maxHeartbeats 4000000 in
theorem Ways_any (p : Pnt) (h : Hdg) (l : List Reg) (A : Option Addr) (n c B : Nat) (w : World) (hs : SlAt w B 8 Reg.cells A n c l) :
    Calls Tryz.prog 7 #[.agg #[.int .i64 p.x, .int .i64 p.y], .agg #[.int .i64 h.p, .int .i64 h.q, .int .i64 h.c], .slice A n c] w (RetSl 2 Bnd.cells (waysR p h l) w) := by
  have hll := Lib.hid hs.len
  have hln := hs.le
  have hc1 := fun W => CheckPoint_any p W
  have hc2 := fun W => CheckHeading_any h W
  obtain ⟨w1, hw1⟩ : ∃ w1, w1 = (w.alloc (.cells #[.int .i64 p.x, .int .i64 p.y] 23)).alloc (.cells #[.int .i64 h.p, .int .i64 h.q, .int .i64 h.c] 25) := ⟨_, rfl⟩
  have k3 : Blk w1 w.heap.size 23 #[.int .i64 p.x, .int .i64 p.y] := by rw [hw1]; exact (Blk.new _ _ _).alloc _
  have k4 : Blk w1 (w.heap.size + 1) 25 #[.int .i64 h.p, .int .i64 h.q, .int .i64 h.c] := by rw [hw1]; exact Blk.newAt (by simp)
  have b : Below w.heap.size w w1 := by rw [hw1]; exact ((Below.refl _ _).alloc (Nat.le_refl _) _).alloc (by simp) _
  have hl1 : SlAt w1 B 8 Reg.cells A n c l := by rw [hw1]; exact (hs.alloc _).alloc _
  clear hs
  unfold waysR
  by_cases hp : okPnt p = true
  · rw [if_pos hp]
    rw [show chkPnt p = 0 from by unfold chkPnt; rw [if_pos hp]] at hc1
    by_cases hh : okHdg h = true
    · rw [if_pos hh]
      rw [show chkHdg h = 0 from by unfold chkHdg; rw [if_pos hh]] at hc2
      rw [hll.out]
      by_cases hn : 1 ≤ n ∧ n ≤ 512
      · rw [if_pos hn]
        have hc3 := fun W => sWithin_yes (n := (n : Int)) (lo := 1) (hi := 512) ⟨by omega, by omega⟩ W
        have hhb := hdg_bd hh
        have hab := at_bd hp hh
        have hn2 := hn.2
        replace hp := Lib.hid hp
        replace hh := Lib.hid hh
        have hck := fun x W => rCheck_any x W
        simp only [regA] at hck
        go_enter Tryz.func7, Tryz.ntmps7
        go_wp2_with fail
        rw [← hw1]
        clear hw1
        obtain ⟨c3, f3, l3⟩ := k3.rules
        go_wp2_with fail
        refine (hc1 _).mono ?_
        rintro e W ⟨rfl, hb⟩
        clear c3 f3 l3 hc1
        replace k3 := k3.below hb
        replace k4 := k4.below hb
        replace b := b.trans (hb.mono b.size)
        replace hl1 := hl1.below hb
        clear hb
        obtain ⟨c4, f4, l4⟩ := k4.rules
        go_wp2_with fail
        refine (hc2 _).mono ?_
        rintro e W2 ⟨rfl, hb⟩
        clear c4 f4 l4 hc2
        replace k3 := k3.below hb
        replace k4 := k4.below hb
        replace b := b.trans (hb.mono b.size)
        replace hl1 := hl1.below hb
        clear hb
        go_wp2_with fail
        refine (hc3 _).mono ?_
        rintro e w' ⟨rfl, rfl⟩
        clear hc3
        go_wp2_with fail
        go_loopw [35] (fun i wr => ∃ k : Nat, i = .int .i64 (k : Int) ∧ k ≤ n ∧ (l.take k).all okReg = true ∧ Below W2.heap.size W2 wr) (fun i wr => n - (intOf i).toNat)
        case atStart => exact ⟨0, rfl, Nat.zero_le _, rfl, Below.refl _ _⟩
        case round =>
          obtain ⟨k, rfl, hk, hall, hb⟩ := hrel
          by_cases hlt : k < n
          · have hk0 : (0 : Int) ≤ (k : Int) := by omega
            have hk1 : (k : Int) < (n : Int) := by omega
            obtain ⟨x, hx⟩ := some_of_lt hll.out hlt
            obtain ⟨bb, off, hA, -, hbl, e0, e1, e2, e3, e4, e5, e6, e7⟩ := (hl1.below hb).reg hx
            have hcx := fun W => hck x W
            replace hA := Lib.hid hA
            have hAA := hA.out
            subst hAA
            by_cases hox : okReg x = true
            · have hall2 := Lib.hid (all_take hall hx hox)
              rw [show chkReg x = 0 from by simp [chkReg, hox]] at hcx
              replace hall := Lib.hid hall
              replace hx := Lib.hid hx
              clear hox
              go_wp2_with fail
              refine (hcx _).mono ?_
              rintro e W9 ⟨rfl, hb9⟩
              have hbel := (Below.refl wr.heap.size wr).alloc (Nat.le_refl _) (.cells #[.int .i64 x.x.lo, .int .i64 x.x.hi, .int .i64 x.y.lo, .int .i64 x.y.hi, .int .i64 x.s.lo, .int .i64 x.s.hi, .int .i64 x.d.lo, .int .i64 x.d.hi] 42)
              go_wp2_with fail
              go_roundw
              case rel => exact ⟨k + 1, by go_num, by omega, hall2.out, hb.trans ((hbel.trans (hb9.mono hbel.size)).mono hb.size)⟩
              case measure => simp [intOf]; omega
            · have hres : Hid (waysT p h l = ([], 11)) := Lib.hid (by unfold waysT; rw [if_neg (by rw [all_stop hx (by simpa using hox)]; decide)])
              rw [show chkReg x = 11 from by simp [chkReg, hox]] at hcx
              replace hall := Lib.hid hall
              replace hx := Lib.hid hx
              clear hox
              go_wp2_with fail
              refine (hcx _).mono ?_
              rintro e W9 ⟨rfl, hb9⟩
              have hbel := (Below.refl wr.heap.size wr).alloc (Nat.le_refl _) (.cells #[.int .i64 x.x.lo, .int .i64 x.x.hi, .int .i64 x.y.lo, .int .i64 x.y.hi, .int .i64 x.s.lo, .int .i64 x.s.hi, .int .i64 x.d.lo, .int .i64 x.d.hi] 42)
              replace hbel := hb.trans ((hbel.trans (hb9.mono hbel.size)).mono hb.size)
              go_wp2_with fail
              go_ret2
              rw [hres.out]
              exact RetSl.none_ (b.trans (hbel.mono b.size))
          · obtain rfl : k = n := by omega
            rw [List.take_of_length_le (by rw [hll.out]; exact Nat.le_refl _)] at hall
            replace k3 := k3.below hb
            replace k4 := k4.below hb
            replace b := b.trans (hb.mono b.size)
            replace hl1 := hl1.below hb
            clear hb
            generalize wr = V at *
            clear wr hck hlt
            have hallh := Lib.hid hall
            clear hall
            have hokx := Lib.hid (fun (i : Nat) (x : Reg) (hx : l[i]? = some x) => List.all_eq_true.1 hallh.out x (List.mem_of_getElem? hx))
            have hgV := k4.lt
            have hbV := b.size
            have hown0 : V.ownsRow V.heap.size 40 2 (.slice none 0 0) 0 (((l.take 0).map (wayB p h)).flatMap Bnd.cells) := ⟨rfl, .inl ⟨rfl, rfl⟩⟩
            go_wp2_with fail
            go_loopw [13, 47] (fun v i wr => ∃ q : Nat, i = .int .i64 (q : Int) ∧ q ≤ k ∧ (l.take q).all (hasPl h) = true ∧ wr.ownsRow V.heap.size 40 2 v q (((l.take q).map (wayB p h)).flatMap Bnd.cells) ∧ Below V.heap.size V wr) (fun v i wr => k - (intOf i).toNat)
            case atStart => exact ⟨0, rfl, Nat.zero_le _, rfl, hown0, Below.refl _ _⟩
            case round =>
              clear hown0
              obtain ⟨q, rfl, hq, hall, hown, hb⟩ := hrel
              have k3r := k3.below hb
              have k4r := k4.below hb
              by_cases hlt : q < k
              · have hq0 : (0 : Int) ≤ (q : Int) := by omega
                have hq1 : (q : Int) < (k : Int) := by omega
                obtain ⟨x, hx⟩ := some_of_lt hll.out hlt
                obtain ⟨bb, off, hA, -, hbl, e0, e1, e2, e3, e4, e5, e6, e7⟩ := (hl1.below hb).reg hx
                have hxok := hokx.out q x hx
                have hex := fun W => Extreme_any x h.p h.q W hxok hhb.2.1 hhb.2.2
                unfold RetEx at hex
                simp only [regA] at hex
                replace hA := Lib.hid hA
                have hAA := hA.out
                subst hAA
                have hbx := (Below.refl wr.heap.size wr).alloc (Nat.le_refl _) (.cells #[.int .i64 x.x.lo, .int .i64 x.x.hi, .int .i64 x.y.lo, .int .i64 x.y.hi, .int .i64 x.s.lo, .int .i64 x.s.hi, .int .i64 x.d.lo, .int .i64 x.d.hi] 42)
                obtain ⟨c4, f4, l4⟩ := k4r.rules
                cases hpl : hasPl h x with
                | false =>
                  have hres : Hid (waysT p h l = ([], 4)) := Lib.hid (by unfold waysT; rw [if_pos hallh.out, if_neg (by rw [all_stop hx hpl]; decide)])
                  simp only [ext_of_no hpl] at hex
                  replace hall := Lib.hid hall
                  replace hx := Lib.hid hx
                  clear hpl hxok hown
                  go_wp2_with fail
                  refine (hex _).mono ?_
                  rintro e W9 ⟨m1, m2, m3, m4, rfl, hb9⟩
                  replace hbx := hb.trans ((hbx.trans (hb9.mono hbx.size)).mono hb.size)
                  clear c4 f4 l4
                  have hbz := hbx.alloc hbx.size (.cells #[.int .i64 0, .int .i64 0, .int .i64 m1, .int .i64 m2, .int .i64 m3, .int .i64 m4] 74)
                  go_wp2_with fail
                  go_ret2
                  rw [hres.out]
                  exact RetSl.none_ (b.trans (hbz.mono b.size))
                | true =>
                  have hall2 := Lib.hid (all_take hall hx hpl)
                  have hmap : Hid ((l.take (q + 1)).map (wayB p h) = (l.take q).map (wayB p h) ++ [wayB p h x]) := Lib.hid (by rw [List.take_add_one, hx, List.map_append]; rfl)
                  simp only [ext_of_has hpl] at hex
                  have hwb : Hid (wayB p h x = ⟨max 0 (floorS ((extB x h.p h.q).lo - (h.p * p.x + h.q * p.y)) h.c), max 0 (ceilS ((extB x h.p h.q).hi - (h.p * p.x + h.q * p.y)) h.c)⟩) := Lib.hid rfl
                  have hxb := extO_bd hxok hhb.2.1 hhb.2.2
                  obtain ⟨⟨hlo1, hlo2⟩, hhi1, hhi2⟩ := hxb
                  generalize (extB x h.p h.q).lo = lo at *
                  generalize (extB x h.p h.q).hi = hi at *
                  obtain ⟨⟨a1, a2⟩, a3, a4⟩ := hab
                  obtain ⟨⟨hc5, hc6⟩, -⟩ := hhb
                  replace hall := Lib.hid hall
                  replace hx := Lib.hid hx
                  clear hpl hxok
                  go_wp2_with fail
                  refine (hex _).mono ?_
                  rintro e W9 ⟨m1, m2, m3, m4, rfl, hb9⟩
                  clear c4 f4 l4 hex e0 e1 e2 e3 e4 e5 e6 e7
                  have hbel := hbx.trans (hb9.mono hbx.size)
                  replace k3r := k3r.below hbel
                  replace k4r := k4r.below hbel
                  replace hown := ownsRow_below hown hbel
                  replace hb := hb.trans (hbel.mono hb.size)
                  clear hbel hbx hb9
                  have k16 := Blk.new W9 74 #[.int .i64 lo, .int .i64 hi, .int .i64 m1, .int .i64 m2, .int .i64 m3, .int .i64 m4]
                  have hbel := (Below.refl W9.heap.size W9).alloc (Nat.le_refl _) (.cells #[.int .i64 lo, .int .i64 hi, .int .i64 m1, .int .i64 m2, .int .i64 m3, .int .i64 m4] 74)
                  have hg9 := hb.size
                  have hne16 : ∀ r, u13.ownBlock = some r → r < W9.heap.size := fun r e => (hown.lt r e).2
                  replace k3r := k3r.below hbel
                  replace k4r := k4r.below hbel
                  replace hown := ownsRow_below hown hbel
                  replace hb := hb.trans (hbel.mono hb.size)
                  clear hbel
                  go_upto_region 21 with fail
                  generalize W9.alloc (.cells #[.int .i64 lo, .int .i64 hi, .int .i64 m1, .int .i64 m2, .int .i64 m3, .int .i64 m4] 74) = W8 at *
                  generalize W9.heap.size = g16 at *
                  have hne16 : u13.ownBlock ≠ some g16 := fun e => by have := hne16 _ e; omega
                  have u1 := IntWalk.i64_in (h.p * p.x) (by omega)
                  have u2 := IntWalk.i64_in (h.q * p.y) (by omega)
                  have u3 := IntWalk.i64_in (h.p * p.x + h.q * p.y) (by omega)
                  obtain ⟨c3, f3, l3⟩ := k3r.rules
                  obtain ⟨c4, f4, l4⟩ := k4r.rules
                  go_wp2_with fail
                  clear c3 f3 l3 c4 f4 l4 u1 u2 u3
                  have hadb : -65536000 ≤ h.p * p.x + h.q * p.y ∧ h.p * p.x + h.q * p.y ≤ 65536000 := by omega
                  generalize h.p * p.x + h.q * p.y = ad at *
                  have u4 := IntWalk.i64_in (lo - ad) (by omega)
                  have u5 := IntWalk.i64_in (hi - ad) (by omega)
                  have hfl := fun W => sfloor_any (lo - ad) h.c W (by omega) (by omega) (by omega) (by omega)
                  have hce := fun W => sceil_any (hi - ad) h.c W (by omega) (by omega) (by omega) (by omega)
                  have hmax := max2_int
                  generalize floorS (lo - ad) h.c = f at *
                  generalize ceilS (hi - ad) h.c = t at *
                  refine wp_held_np (fun w' : World => (∀ j, w'.cell? ⟨g16, j, none⟩ = #[Value.int .i64 lo, .int .i64 hi, .int .i64 m1, .int .i64 m2, .int .i64 m3, .int .i64 m4][j]?) ∧ (∀ j, w'.cell? ⟨w.heap.size + 1, j, none⟩ = #[Value.int .i64 h.p, .int .i64 h.q, .int .i64 h.c][j]?)) (by kernel_rfl) ?_
                  have hbel := (Below.refl W8.heap.size W8).drew
                  replace k3r := k3r.below hbel
                  replace k4r := k4r.below hbel
                  replace k16 := k16.below hbel
                  replace hown := ownsRow_below hown hbel
                  replace hb := hb.trans (hbel.mono hb.size)
                  clear hbel
                  generalize W8.drew = Wd at *
                  have hS : (fun w' : World => (∀ j, w'.cell? ⟨g16, j, none⟩ = #[Value.int .i64 lo, .int .i64 hi, .int .i64 m1, .int .i64 m2, .int .i64 m3, .int .i64 m4][j]?) ∧ (∀ j, w'.cell? ⟨w.heap.size + 1, j, none⟩ = #[Value.int .i64 h.p, .int .i64 h.q, .int .i64 h.c][j]?)) Wd := ⟨k16.cell, k4r.cell⟩
                  refine held_take (i := 0) (v := ?_) 75 rfl rfl (by kernel_rfl) (by kernel_rfl) (by kernel_rfl) (fun _ _ _ h => h) (Or.inl ⟨by rfl, ?_⟩) hS ?_
                  rotate_left 1
                  · intro w' hSw
                    try dsimp only at hSw
                    obtain ⟨q1, q2⟩ := hSw
                    go_simp
                    all_goals with_reducible rfl
                  try simp only [Act.put, List.setIfInBounds_toArray, List.set_cons_zero, List.set_cons_succ]
                  refine held_take (i := 1) (v := ?_) 76 rfl rfl (by kernel_rfl) (by kernel_rfl) (by kernel_rfl) (fun _ _ _ h => h) (Or.inl ⟨by rfl, ?_⟩) hS ?_
                  rotate_left 1
                  · intro w' hSw
                    try dsimp only at hSw
                    obtain ⟨q1, q2⟩ := hSw
                    go_simp
                    all_goals with_reducible rfl
                  try simp only [Act.put, List.setIfInBounds_toArray, List.set_cons_zero, List.set_cons_succ]
                  refine held_take (i := 2) (v := ?_) 77 rfl rfl (by kernel_rfl) (by kernel_rfl) (by kernel_rfl) (fun _ _ _ h => h) (Or.inl ⟨by rfl, ?_⟩) hS ?_
                  rotate_left 1
                  · intro w' hSw
                    try dsimp only at hSw
                    obtain ⟨q1, q2⟩ := hSw
                    go_simp
                    all_goals with_reducible rfl
                  try simp only [Act.put, List.setIfInBounds_toArray, List.set_cons_zero, List.set_cons_succ]
                  refine held_take (i := 3) (v := ?_) 78 rfl rfl (by kernel_rfl) (by kernel_rfl) (by kernel_rfl) (fun _ _ _ h => h) (Or.inl ⟨by rfl, ?_⟩) hS ?_
                  rotate_left 1
                  · intro w' hSw
                    try dsimp only at hSw
                    obtain ⟨q1, q2⟩ := hSw
                    go_simp
                    all_goals with_reducible rfl
                  try simp only [Act.put, List.setIfInBounds_toArray, List.set_cons_zero, List.set_cons_succ]
                  refine held_take (i := 4) (v := ?_) 79 rfl rfl (by kernel_rfl) (by kernel_rfl) (by kernel_rfl) (fun _ _ _ h => h) (Or.inl ⟨by rfl, ?_⟩) hS ?_
                  rotate_left 1
                  · intro w' hSw
                    try dsimp only at hSw
                    obtain ⟨q1, q2⟩ := hSw
                    go_simp
                    all_goals with_reducible rfl
                  try simp only [Act.put, List.setIfInBounds_toArray, List.set_cons_zero, List.set_cons_succ]
                  refine held_take (i := 5) (v := ?_) 80 rfl rfl (by kernel_rfl) (by kernel_rfl) (by kernel_rfl) (fun _ _ _ h => h) (Or.inl ⟨by rfl, ?_⟩) hS ?_
                  rotate_left 1
                  · intro w' hSw
                    try dsimp only at hSw
                    obtain ⟨q1, q2⟩ := hSw
                    go_simp
                    all_goals with_reducible rfl
                  try simp only [Act.put, List.setIfInBounds_toArray, List.set_cons_zero, List.set_cons_succ]
                  refine held_take (i := 6) (v := ?_) 81 rfl rfl (by kernel_rfl) (by kernel_rfl) (by kernel_rfl) (fun _ _ _ h => h) (Or.inl ⟨by rfl, ?_⟩) hS ?_
                  rotate_left 1
                  · intro w' hSw
                    try dsimp only at hSw
                    obtain ⟨q1, q2⟩ := hSw
                    go_simp
                    all_goals with_reducible rfl
                  try simp only [Act.put, List.setIfInBounds_toArray, List.set_cons_zero, List.set_cons_succ]
                  refine held_take (i := 9) (v := ?_) 84 rfl rfl (by kernel_rfl) (by kernel_rfl) (by kernel_rfl) (fun _ _ _ h => h) (Or.inl ⟨by rfl, ?_⟩) hS ?_
                  rotate_left 1
                  · intro w' hSw
                    try dsimp only at hSw
                    obtain ⟨q1, q2⟩ := hSw
                    go_simp
                    all_goals with_reducible rfl
                  try simp only [Act.put, List.setIfInBounds_toArray, List.set_cons_zero, List.set_cons_succ]
                  refine held_take (i := 10) (v := ?_) 85 rfl rfl (by kernel_rfl) (by kernel_rfl) (by kernel_rfl) (fun _ _ _ h => h) (Or.inl ⟨by rfl, ?_⟩) hS ?_
                  rotate_left 1
                  · intro w' hSw
                    try dsimp only at hSw
                    obtain ⟨q1, q2⟩ := hSw
                    go_simp
                    all_goals with_reducible rfl
                  try simp only [Act.put, List.setIfInBounds_toArray, List.set_cons_zero, List.set_cons_succ]
                  refine held_take (i := 11) (v := ?_) 86 rfl rfl (by kernel_rfl) (by kernel_rfl) (by kernel_rfl) (fun _ _ _ h => h) (Or.inl ⟨by rfl, ?_⟩) hS ?_
                  rotate_left 1
                  · intro w' hSw
                    try dsimp only at hSw
                    obtain ⟨q1, q2⟩ := hSw
                    go_simp
                    all_goals with_reducible rfl
                  try simp only [Act.put, List.setIfInBounds_toArray, List.set_cons_zero, List.set_cons_succ]
                  refine held_take (i := 12) (v := ?_) 87 rfl rfl (by kernel_rfl) (by kernel_rfl) (by kernel_rfl) (fun _ _ _ h => h) (Or.inl ⟨by rfl, ?_⟩) hS ?_
                  rotate_left 1
                  · intro w' hSw
                    try dsimp only at hSw
                    obtain ⟨q1, q2⟩ := hSw
                    go_simp
                    all_goals with_reducible rfl
                  try simp only [Act.put, List.setIfInBounds_toArray, List.set_cons_zero, List.set_cons_succ]
                  refine held_take (i := 13) (v := ?_) 88 rfl rfl (by kernel_rfl) (by kernel_rfl) (by kernel_rfl) (fun _ _ _ h => h) (Or.inl ⟨by rfl, ?_⟩) hS ?_
                  rotate_left 1
                  · intro w' hSw
                    try dsimp only at hSw
                    obtain ⟨q1, q2⟩ := hSw
                    go_simp
                    all_goals with_reducible rfl
                  try simp only [Act.put, List.setIfInBounds_toArray, List.set_cons_zero, List.set_cons_succ]
                  refine held_take (i := 14) (v := ?_) 89 rfl rfl (by kernel_rfl) (by kernel_rfl) (by kernel_rfl) (fun _ _ _ h => h) (Or.inl ⟨by rfl, ?_⟩) hS ?_
                  rotate_left 1
                  · intro w' hSw
                    try dsimp only at hSw
                    obtain ⟨q1, q2⟩ := hSw
                    go_simp
                    all_goals with_reducible rfl
                  try simp only [Act.put, List.setIfInBounds_toArray, List.set_cons_zero, List.set_cons_succ]
                  refine held_one (i := 7) (by kernel_rfl) rfl rfl (fun K hK => ?_)
                  go_simp
                  refine (hfl _).mono ?_
                  rintro e w' ⟨rfl, rfl⟩
                  refine hK _ _ hS ?_
                  clear hK K
                  try simp only [Act.put, List.setIfInBounds_toArray, List.set_cons_zero, List.set_cons_succ]
                  refine held_take (i := 8) (v := ?_) 83 rfl rfl (by kernel_rfl) (by kernel_rfl) (by kernel_rfl) (fun _ _ _ h => h) (Or.inl ⟨by rfl, ?_⟩) hS ?_
                  rotate_left 1
                  · intro w' hSw
                    try dsimp only at hSw
                    obtain ⟨q1, q2⟩ := hSw
                    go_simp
                    all_goals with_reducible rfl
                  try simp only [Act.put, List.setIfInBounds_toArray, List.set_cons_zero, List.set_cons_succ]
                  refine held_one (i := 15) (by kernel_rfl) rfl rfl (fun K hK => ?_)
                  go_simp
                  refine (hce _).mono ?_
                  rintro e w' ⟨rfl, rfl⟩
                  refine hK _ _ hS ?_
                  clear hK K
                  try simp only [Act.put, List.setIfInBounds_toArray, List.set_cons_zero, List.set_cons_succ]
                  refine held_take (i := 16) (v := ?_) 91 rfl rfl (by kernel_rfl) (by kernel_rfl) (by kernel_rfl) (fun _ _ _ h => h) (Or.inl ⟨by rfl, ?_⟩) hS ?_
                  rotate_left 1
                  · intro w' hSw
                    try dsimp only at hSw
                    obtain ⟨q1, q2⟩ := hSw
                    go_simp
                    all_goals with_reducible rfl
                  try simp only [Act.put, List.setIfInBounds_toArray, List.set_cons_zero, List.set_cons_succ]
                  refine held_take (i := 17) (v := ?_) 92 rfl rfl (by kernel_rfl) (by kernel_rfl) (by kernel_rfl) (fun _ _ _ h => h) (Or.inl ⟨by rfl, ?_⟩) hS ?_
                  rotate_left 1
                  · intro w' hSw
                    try dsimp only at hSw
                    obtain ⟨q1, q2⟩ := hSw
                    go_simp
                    all_goals with_reducible rfl
                  try simp only [Act.put, List.setIfInBounds_toArray, List.set_cons_zero, List.set_cons_succ]
                  have hbig1 : Hid (q + 1 ≤ maxLen) := by show q + 1 ≤ maxLen; unfold maxLen; omega
                  have hbig2 : Hid ((q + 1) * 16 ≤ 140737488355328) := by show (q + 1) * 16 ≤ 140737488355328; omega
                  obtain ⟨i0, hi0, hz0, hz1, hz2⟩ := info_parts Tryz.infoBnd
                  have hnews : ∀ (j : Nat) (u : Value), ([.int .i64 (max 0 f), .int .i64 (max 0 t)] : List Value)[j]? = some u → (Wd.alloc (.cells #[.int .i64 (max 0 f), .int .i64 (max 0 t)] 40)).cell? ((⟨Wd.heap.size, 0, none⟩ : Addr).add j) = some u :=
                    World.news_of_block (cs := #[.int .i64 (max 0 f), .int .i64 (max 0 t)]) (World.alloc_heap_new Wd _)
                  have hownf := hown.alloc (.cells #[.int .i64 (max 0 f), .int .i64 (max 0 t)] 40)
                  have hbf := hb.alloc hb.size (.cells #[.int .i64 (max 0 f), .int .i64 (max 0 t)] 40)
                  have hbs := hbf.size
                  refine held_one (i := 18) (by kernel_rfl) rfl rfl (fun K hK => ?_)
                  go_simp
                  refine hK _ _ ⟨(k16.alloc _).cell, (k4r.alloc _).cell⟩ ?_
                  clear hK K
                  try simp only [Act.put, List.setIfInBounds_toArray, List.set_cons_zero, List.set_cons_succ]
                  refine held_one (i := 19) (by kernel_rfl) rfl rfl (fun K hK => ?_)
                  refine wp_append_lies _ _ _ 29 (by rfl) V.heap.size 40 i0 (.agg #[.int .i64 0, .int .i64 0]) 2 16 Tryz.underlying29 hi0 hz0 hz1 hz2 rfl (by omega) u13 q (((l.take q).map (wayB p h)).flatMap Bnd.cells) (by rfl) hownf ⟨Wd.heap.size, 0, none⟩ 1 1 [.int .i64 (max 0 f), .int .i64 (max 0 t)] (by rfl) rfl hnews (by simp [Value.oneCell']) (by omega) hbig1.out hbig2.out hbs (Wd.heap.size + 1) (by simp) ?_
                  intro g cap w7 hown7 hgrow hlies hlt7
                  have hbh := hbf.grown hgrow hbs (fun r e => (hownf.lt r e).1)
                  have k16g := (k16.alloc (.cells #[.int .i64 (max 0 f), .int .i64 (max 0 t)] 40)).grown hgrow (fun e => hne16 e.symm)
                  have k4g := (k4r.alloc (.cells #[.int .i64 (max 0 f), .int .i64 (max 0 t)] 40)).grown hgrow (fun e => by have := (hownf.lt _ e.symm).1; omega)
                  have hS : (fun w' : World => (∀ j, w'.cell? ⟨g16, j, none⟩ = #[Value.int .i64 lo, .int .i64 hi, .int .i64 m1, .int .i64 m2, .int .i64 m3, .int .i64 m4][j]?) ∧ (∀ j, w'.cell? ⟨w.heap.size + 1, j, none⟩ = #[Value.int .i64 h.p, .int .i64 h.q, .int .i64 h.c][j]?)) w7 := ⟨k16g.cell, k4g.cell⟩
                  refine hK _ _ hS ?_
                  clear hK K
                  try simp only [Act.put, List.setIfInBounds_toArray, List.set_cons_zero, List.set_cons_succ]
                  refine held_take (i := 20) (v := ?_) 13 rfl rfl (by kernel_rfl) (by kernel_rfl) (by kernel_rfl) (fun _ _ _ h => h) (Or.inl ⟨by rfl, ?_⟩) hS ?_
                  rotate_left 1
                  · intro w' hSw
                    try dsimp only at hSw
                    obtain ⟨q1, q2⟩ := hSw
                    go_simp
                    all_goals with_reducible rfl
                  try simp only [Act.put, List.setIfInBounds_toArray, List.set_cons_zero, List.set_cons_succ]
                  refine wpAnyH_done (by kernel_rfl) (noPanic_normal ?_) _
                  clear hS
                  go_wp2_with fail
                  go_roundw
                  case rel => exact ⟨q + 1, by go_num, by omega, hall2.out, by rw [hmap.out, List.flatMap_append, hwb.out]; exact hown7, hbh⟩
                  case measure => simp [intOf]; omega
              · obtain rfl : q = k := by omega
                rw [List.take_of_length_le (by rw [hll.out]; exact Nat.le_refl _)] at hown hall
                have hres : Hid (waysT p h l = (l.map (wayB p h), 0)) := Lib.hid (by unfold waysT; rw [if_pos hallh.out, if_pos hall])
                obtain ⟨O9, co9, e9, h9⟩ := SlAt.of_own (enc := Bnd.cells) hown (by omega) (l.map (wayB p h)) rfl (fun _ => rfl) (by rw [List.length_map, hll.out])
                subst e9
                replace hall := Lib.hid hall
                go_wp2_with fail
                go_ret2
                rw [hres.out]
                exact ⟨O9, _, co9, rfl, h9.mono (by omega), b.trans (hb.mono b.size)⟩
      · rw [if_neg hn]
        have hc3 := fun W => sWithin_no (n := (n : Int)) (lo := 1) (hi := 512) (fun k => hn ⟨by omega, by omega⟩) W
        replace hn := Lib.hid hn
        go_enter Tryz.func7, Tryz.ntmps7
        go_wp2_with fail
        rw [← hw1]
        clear hw1
        obtain ⟨c3, f3, l3⟩ := k3.rules
        go_wp2_with fail
        refine (hc1 _).mono ?_
        rintro e W ⟨rfl, hb⟩
        clear c3 f3 l3 hc1
        replace k3 := k3.below hb
        replace k4 := k4.below hb
        replace b := b.trans (hb.mono b.size)
        replace hl1 := hl1.below hb
        clear hb
        obtain ⟨c4, f4, l4⟩ := k4.rules
        go_wp2_with fail
        refine (hc2 _).mono ?_
        rintro e W2 ⟨rfl, hb⟩
        clear c4 f4 l4 hc2
        replace k3 := k3.below hb
        replace k4 := k4.below hb
        replace b := b.trans (hb.mono b.size)
        replace hl1 := hl1.below hb
        clear hb
        go_wp2_with fail
        refine (hc3 _).mono ?_
        rintro e w' ⟨rfl, rfl⟩
        clear hc3
        go_wp2_with fail
        go_ret2
        exact RetSl.none_ b
    · rw [if_neg hh]
      rw [show chkHdg h = 35 from by unfold chkHdg; rw [if_neg hh]] at hc2
      go_enter Tryz.func7, Tryz.ntmps7
      go_wp2_with fail
      rw [← hw1]
      clear hw1
      obtain ⟨c3, f3, l3⟩ := k3.rules
      go_wp2_with fail
      refine (hc1 _).mono ?_
      rintro e W ⟨rfl, hb⟩
      clear c3 f3 l3 hc1
      replace k3 := k3.below hb
      replace k4 := k4.below hb
      replace b := b.trans (hb.mono b.size)
      replace hl1 := hl1.below hb
      clear hb
      obtain ⟨c4, f4, l4⟩ := k4.rules
      go_wp2_with fail
      refine (hc2 _).mono ?_
      rintro e W2 ⟨rfl, hb⟩
      clear c4 f4 l4 hc2
      replace k3 := k3.below hb
      replace k4 := k4.below hb
      replace b := b.trans (hb.mono b.size)
      replace hl1 := hl1.below hb
      clear hb
      go_wp2_with fail
      go_ret2
      exact RetSl.none_ b
  · rw [if_neg hp]
    rw [show chkPnt p = 10 from by unfold chkPnt; rw [if_neg hp]] at hc1
    go_enter Tryz.func7, Tryz.ntmps7
    go_wp2_with fail
    rw [← hw1]
    clear hw1
    obtain ⟨c3, f3, l3⟩ := k3.rules
    go_wp2_with fail
    refine (hc1 _).mono ?_
    rintro e W ⟨rfl, hb⟩
    clear c3 f3 l3 hc1
    replace k3 := k3.below hb
    replace k4 := k4.below hb
    replace b := b.trans (hb.mono b.size)
    replace hl1 := hl1.below hb
    clear hb
    go_wp2_with fail
    go_ret2
    exact RetSl.none_ b
end Go.Proofs.YtfengddpfeneiaaGreat
namespace Go.Proofs.YtfengddpfeneiaaGreat
open Go.RowKit Go.Shelf
set_option linter.unusedSimpArgs false
set_option linter.unusedVariables false

end Go.Proofs.YtfengddpfeneiaaGreat
namespace Go.Proofs.YtfengddpfeneiaaGreat
open Go.RowKit Go.Shelf
set_option linter.unusedSimpArgs false
set_option linter.unusedVariables false

end Go.Proofs.YtfengddpfeneiaaGreat
