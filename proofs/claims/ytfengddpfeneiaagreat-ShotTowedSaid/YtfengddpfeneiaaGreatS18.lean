/-
  Shots, walks: fewest: the fewest repeated shots, edge by edge.
-/
import Derived.Test.YtfengddpfeneiaaGreatS17
import Derived.Test.YtfengddpfeneiaaGreatQ9
import Derived.Test.YtfengddpfeneiaaGreatI2
import Derived.Deep.LoopGhost
namespace Go.Proofs.YtfengddpfeneiaaGreat
open Go.RowKit Go.Shelf
set_option linter.unusedSimpArgs false
set_option linter.unusedVariables false

theorem madeCells_edg (n : Nat) : (madeCells (Value.agg #[.int .i64 0, .int .i64 0, .int .i64 0, .int .i64 0, .int .i64 0]).cells (n * 5)).toList = (List.replicate n edg0).flatMap Edg.cells := by
  apply List.ext_getElem?
  intro j
  have e : (List.replicate n edg0).flatMap Edg.cells = List.replicate (n * 5) (.int .i64 0) := by
    induction n with
    | zero => rfl
    | succ n ih => rw [List.replicate_succ, List.flatMap_cons, ih, show (n + 1) * 5 = n * 5 + 1 + 1 + 1 + 1 + 1 from by omega, List.replicate_succ, List.replicate_succ, List.replicate_succ, List.replicate_succ, List.replicate_succ]; rfl
  rw [e]
  by_cases hj : j < n * 5
  · have hm : j % 5 = 0 ∨ j % 5 = 1 ∨ j % 5 = 2 ∨ j % 5 = 3 ∨ j % 5 = 4 := by omega
    rcases hm with hm | hm | hm | hm | hm <;> simp [madeCells, hj, hm, Value.cells]
  · simp [madeCells, hj]
def bfI (l : List Int) (k : Nat) : List Int := (List.range (cnt l + 1)).map fun j => if j = 0 then 0 else if j ≤ k then -(cnt l : Int) - 1 else 0
theorem bfI_zero (l : List Int) : bfI l 0 = List.replicate (cnt l + 1) 0 := by
  refine List.ext_getElem? fun i => ?_
  unfold bfI
  rw [List.getElem?_map, List.getElem?_replicate]
  by_cases h : i < cnt l + 1
  · rw [List.getElem?_range h, if_pos h]
    simp only [Option.map_some]
    by_cases e : i = 0
    · rw [if_pos e]
    · rw [if_neg e, if_neg (by omega)]
  · rw [List.getElem?_eq_none (by simp; omega), if_neg h]; rfl
theorem bfI_end (l : List Int) : bfI l (cnt l) = bf0 l := by
  unfold bfI bf0
  refine List.map_congr_left fun i hi => ?_
  have := List.mem_range.1 hi
  by_cases e : i = 0
  · rw [if_pos e, if_pos e]
  · rw [if_neg e, if_neg e, if_pos (by omega)]
theorem bfI_set (l : List Int) {k : Nat} (h : k < cnt l) : (bfI l k).set (k + 1) (-(cnt l : Int) - 1) = bfI l (k + 1) := by
  refine List.ext_getElem? fun i => ?_
  rw [List.getElem?_set]
  unfold bfI
  by_cases hi : k + 1 = i
  · subst hi
    rw [if_pos rfl, if_pos (by simp; omega), List.getElem?_map, List.getElem?_range (by omega)]
    simp
  · rw [if_neg hi, List.getElem?_map, List.getElem?_map]
    by_cases hl : i < cnt l + 1
    · rw [List.getElem?_range hl]
      simp only [Option.map_some, Option.some.injEq]
      by_cases e : i = 0
      · rw [if_pos e, if_pos e]
      · rw [if_neg e, if_neg e]
        by_cases h1 : i ≤ k
        · rw [if_pos h1, if_pos (by omega)]
        · rw [if_neg h1, if_neg (by omega)]
    · rw [List.getElem?_eq_none (by simp; omega)]; rfl
theorem bfI_len (l : List Int) (k : Nat) : (bfI l k).length = cnt l + 1 := by simp [bfI]
theorem flatMap_set5 : ∀ (xs : List Edg) (k : Nat) (x : Edg), (((((xs.flatMap Edg.cells).set (k * 5) (.int .i64 (x.fr : Int))).set (k * 5 + 1) (.int .i64 (x.tt : Int))).set (k * 5 + 2) (.int .i64 x.least)).set (k * 5 + 3) (.int .i64 x.clm.rule)).set (k * 5 + 4) (.int .i64 x.clm.fr) = (xs.set k x).flatMap Edg.cells
  | [], k, x => by simp
  | y :: xs, 0, x => by simp [Edg.cells, List.flatMap_cons]
  | y :: xs, k + 1, x => by
    rw [List.set_cons_succ, List.flatMap_cons, List.flatMap_cons, ← flatMap_set5 xs k x]
    simp only [Edg.cells, List.cons_append, List.nil_append]
    rw [show (k + 1) * 5 = k * 5 + 1 + 1 + 1 + 1 + 1 from by omega]
    rw [show k * 5 + 1 + 1 + 1 + 1 + 1 + 1 = k * 5 + 1 + 1 + 1 + 1 + 1 + 1 from rfl]
    simp only [List.set_cons_succ, Nat.add_assoc, Nat.reduceAdd]
def RetFew (r : Rul) (l : List Int) (w : World) (e : Ending) (w' : World) : Prop :=
  ∃ O co P cp d, e = .returned (.tuple #[.slice O (cnt l + 1) co, .slice P (cnt l + 1) cp]) ∧ SlAt w' w.heap.size 1 ivs O (cnt l + 1) co (gL r l) ∧ SlAt w' w.heap.size 5 Edg.cells P (cnt l + 1) cp d ∧ ChainOk r l d ∧ Below w.heap.size w w'
def holdsE (m : List Int) (x : Edg) : Prop := m.getD x.fr 0 + x.least ≤ m.getD x.tt 0
/-- What a pass over the first k edges has come to. -/
def PassRel (r : Rul) (l m : List Int) (k : Nat) (cb : Bool) (m' : List Int) : Prop :=
  (cb = false → m' = m ∧ ∀ (j : Nat) (x : Edg), j < k → (edgesS r l)[j]? = some x → holdsE m x) ∧ (cb = true → gapS r l m' (cnt l + 1) < gapS r l m (cnt l + 1)) ∧ gapS r l m' (cnt l + 1) ≤ gapS r l m (cnt l + 1)
def WaveRel (r : Rul) (l : List Int) (gk : Nat) (cb : Bool) (m : List Int) : Prop := (cb = false ∧ ∀ x ∈ edgesS r l, holdsE m x) ∨ (cb = true ∧ gapS r l m (cnt l + 1) < gk)
theorem pass_start (r : Rul) (l m : List Int) : PassRel r l m 0 false m := ⟨fun _ => ⟨rfl, fun j x h => absurd h (by omega)⟩, (fun h => by cases h), Nat.le_refl _⟩
theorem pass_hold {r : Rul} {l m m' : List Int} {k : Nat} {cb : Bool} {x : Edg} (h : PassRel r l m k cb m') (hx : (edgesS r l)[k]? = some x) (hh : holdsE m' x) : PassRel r l m (k + 1) cb m' := by
  refine ⟨fun hc => ?_, h.2.1, h.2.2⟩
  obtain ⟨e, h2⟩ := h.1 hc
  refine ⟨e, fun j y hj hy => ?_⟩
  by_cases ej : j = k
  · subst ej
    rw [hx] at hy
    cases hy
    rw [← e]; exact hh
  · exact h2 j y (by omega) hy
theorem pass_relax {r : Rul} {l m m' : List Int} {k : Nat} {cb : Bool} {x : Edg} (h : PassRel r l m k cb m') (hlen : m'.length = cnt l + 1) (ht : x.tt ≤ cnt l) (hgt : m'.getD x.tt 0 < m'.getD x.fr 0 + x.least) (hle : m'.getD x.fr 0 + x.least ≤ gS r l x.tt) : PassRel r l m (k + 1) true (m'.set x.tt (m'.getD x.fr 0 + x.least)) := by
  have h3 := (gapS_lt (by omega) hgt hle (cnt l + 1)).2 (by omega)
  have := h.2.2
  exact ⟨fun hc => (by cases hc), fun _ => by omega, by omega⟩
theorem pass_end {r : Rul} {l m m' : List Int} {cb : Bool} {gk : Nat} (h : PassRel r l m (edgesS r l).length cb m') (hg : gapS r l m (cnt l + 1) < gk) : ∃ k' < gk, WaveRel r l k' cb m' := by
  cases cb with
  | false =>
    obtain ⟨e, h2⟩ := h.1 rfl
    subst e
    refine ⟨0, by omega, .inl ⟨rfl, fun x hx => ?_⟩⟩
    obtain ⟨j, hj⟩ := List.mem_iff_getElem?.1 hx
    exact h2 j x (List.getElem?_eq_some_iff.1 hj).1 hj
  | true => exact ⟨gapS r l m' (cnt l + 1) + 1, by have := h.2.1 rfl; omega, .inr ⟨rfl, by omega⟩⟩
set_option maxRecDepth 100000 in
set_option maxHeartbeats 4000000 in
theorem fewest_any (r : Rul) (hr : okRul r = true) (l : List Int) (A : Option Addr) (n c B : Nat) (w : World) (hn256 : n ≤ 256) (hs : SlAt w B 1 ivs A n c l) :
    Calls Tryz.prog 106 #[.agg #[.int .i64 r.row, .int .i64 r.win, .int .i64 r.many, .int .i64 r.total], .slice A n c] w (RetFew r l w) := by
  have hl := Lib.hid hs.len
  obtain ⟨w1, hw1⟩ : ∃ w1, w1 = w.alloc (.cells #[.int .i64 r.row, .int .i64 r.win, .int .i64 r.many, .int .i64 r.total] 104) := ⟨_, rfl⟩
  have k3 : Blk w1 w.heap.size 104 #[.int .i64 r.row, .int .i64 r.win, .int .i64 r.many, .int .i64 r.total] := by rw [hw1]; exact Blk.new _ _ _
  have b : Below w.heap.size w w1 := by rw [hw1]; exact (Below.refl _ _).alloc (Nat.le_refl _) _
  have hs1 : SlAt w1 B 1 ivs A n c l := by rw [hw1]; exact hs.alloc _
  have hs0 := Lib.hid hs
  clear hs
  obtain ⟨i0, hi0, hz0, hz1, hz2⟩ := info_parts Tryz.infoInt
  obtain ⟨ie, hie, hy0, hy1, hy2⟩ := info_parts Tryz.infoEdg
  have hcn := cnt_le l
  rw [hl.out] at hcn
  obtain ⟨cl, hcl⟩ : ∃ cl, cnt l = cl := ⟨_, rfl⟩
  rw [hcl] at hcn
  have hbad0 := fun W (h : SlAt W B 1 ivs A n c l) => bad_all l A n c B 0 (n : Int) W (Int.le_refl _) (by omega) (Int.le_refl _) (.inr rfl) h
  rw [show badS l 0 (n : Int) = (cl : Int) from by rw [← hl.out, badS_all, hcl]] at hbad0
  have hed := fun W h => edges_any r hr l A n c B W hn256 h
  replace hcl := Lib.hid hcl
  have hc1 := Lib.hid (show i0.bytes * (cl + 1) ≤ 281474976710656 by rw [hz2]; omega)
  have hc3 := Lib.hid (show ie.bytes * (cl + 1) ≤ 281474976710656 by rw [hy2]; omega)
  have hc2 := Lib.hid (show cl + 1 ≤ maxLen by unfold maxLen; omega)
  have uc := IntWalk.i64_in ((cl : Int) + 1) (by omega)
  go_enter Tryz.func106, Tryz.ntmps106
  go_wp2_with fail
  rw [← hw1]
  clear hw1
  refine (hbad0 _ hs1).mono ?_
  rintro e w' ⟨rfl, rfl⟩
  clear hbad0
  go_wp2_with fail
  refine wp_held_np (fun w' : World => True) (by kernel_rfl) ?_
  have hbz : Below w1.heap.size w1 w1.drew := (Below.refl _ _).drew
  have hS : (fun w' : World => True) w1.drew := trivial
  generalize w1.drew = wd at *
  refine held_take (i := 0) (v := ?_) 16 rfl rfl (by kernel_rfl) (by kernel_rfl) (by kernel_rfl) (fun _ _ _ h => h) (Or.inl ⟨by rfl, ?_⟩) hS ?_
  rotate_left 1
  · intro w' hSw
    try dsimp only at hSw
    obtain h9 := hSw
    go_simp
    all_goals with_reducible rfl
  try simp only [Act.put, List.setIfInBounds_toArray, List.set_cons_zero, List.set_cons_succ]
  refine held_take (i := 1) (v := ?_) 17 rfl rfl (by kernel_rfl) (by kernel_rfl) (by kernel_rfl) (fun _ _ _ h => h) (Or.inl ⟨by rfl, ?_⟩) hS ?_
  rotate_left 1
  · intro w' hSw
    try dsimp only at hSw
    obtain h9 := hSw
    go_simp
    all_goals with_reducible rfl
  try simp only [Act.put, List.setIfInBounds_toArray, List.set_cons_zero, List.set_cons_succ]
  refine held_take (i := 3) (v := ?_) 19 rfl rfl (by kernel_rfl) (by kernel_rfl) (by kernel_rfl) (fun _ _ _ h => h) (Or.inl ⟨by rfl, ?_⟩) hS ?_
  rotate_left 1
  · intro w' hSw
    try dsimp only at hSw
    obtain h9 := hSw
    go_simp
    all_goals with_reducible rfl
  try simp only [Act.put, List.setIfInBounds_toArray, List.set_cons_zero, List.set_cons_succ]
  refine held_take (i := 4) (v := ?_) 20 rfl rfl (by kernel_rfl) (by kernel_rfl) (by kernel_rfl) (fun _ _ _ h => h) (Or.inl ⟨by rfl, ?_⟩) hS ?_
  rotate_left 1
  · intro w' hSw
    try dsimp only at hSw
    obtain h9 := hSw
    go_simp
    all_goals with_reducible rfl
  try simp only [Act.put, List.setIfInBounds_toArray, List.set_cons_zero, List.set_cons_succ]
  clear hS
  refine wpAnyH_fin (f := fun a (q : Nat × Nat) => (((a.put (some 18) (.slice (some ⟨q.1, 0, none⟩) (cl + 1) (cl + 1))).put (some 21) (.slice (some ⟨q.2, 0, none⟩) (cl + 1) (cl + 1))).put (some 4) (.slice (some ⟨q.1, 0, none⟩) (cl + 1) (cl + 1))).put (some 5) (.slice (some ⟨q.2, 0, none⟩) (cl + 1) (cl + 1))) (B := fun q W' => W'.ownsRow w1.heap.size 3 1 (.slice (some ⟨q.1, 0, none⟩) (cl + 1) (cl + 1)) (cl + 1) (madeCells (Value.int .i64 0).cells ((cl + 1) * 1)).toList ∧ W'.ownsRow w1.heap.size 226 5 (.slice (some ⟨q.2, 0, none⟩) (cl + 1) (cl + 1)) (cl + 1) (madeCells (Value.agg #[.int .i64 0, .int .i64 0, .int .i64 0, .int .i64 0, .int .i64 0]).cells ((cl + 1) * 5)).toList ∧ q.1 ≠ q.2 ∧ Below w1.heap.size w1 W') ?_ (fun hrest => ?_)
  · rintro ⟨g4, g5⟩ W3 ⟨r4, r5, hne, hb⟩
    try simp only [Act.put, List.setIfInBounds_toArray, List.set_cons_zero, List.set_cons_succ]
    refine noPanic_normal ?_
    clear hbz
    dsimp only at hne
    have rm : W3.ownsRow w1.heap.size 3 1 (.slice (some ⟨g4, 0, none⟩) (cl + 1) (cl + 1)) (cl + 1) ((bfI l 0).map (Value.int .i64)) := by
      rw [bfI_zero, hcl.out, List.map_replicate]
      rw [madeCells_int] at r4
      exact r4
    have rd : W3.ownsRow w1.heap.size 226 5 (.slice (some ⟨g5, 0, none⟩) (cl + 1) (cl + 1)) (cl + 1) ((List.replicate (cl + 1) edg0).flatMap Edg.cells) := by
      rw [madeCells_edg] at r5
      exact r5
    have hg4 : w1.heap.size ≤ g4 ∧ g4 < W3.heap.size := r4.lt g4 rfl
    have hg5 : w1.heap.size ≤ g5 ∧ g5 < W3.heap.size := r5.lt g5 rfl
    have hlw := k3.lt
    clear r4 r5 hc1 hc2 hc3
    replace k3 := k3.below hb
    replace b := b.trans (hb.mono b.size)
    clear hb hs1
    obtain ⟨hg41, hg42⟩ := hg4
    obtain ⟨hg51, hg52⟩ := hg5
    go_wp2_with fail
    go_loopw [23] (fun i wr => ∃ k : Nat, i = .int .i64 (k : Int) ∧ k ≤ cl ∧ wr.ownsRow w1.heap.size 3 1 (.slice (some ⟨g4, 0, none⟩) (cl + 1) (cl + 1)) (cl + 1) ((bfI l k).map (Value.int .i64)) ∧ wr.ownsRow w1.heap.size 226 5 (.slice (some ⟨g5, 0, none⟩) (cl + 1) (cl + 1)) (cl + 1) ((List.replicate (cl + 1) edg0).flatMap Edg.cells) ∧ Blk wr w.heap.size 104 #[.int .i64 r.row, .int .i64 r.win, .int .i64 r.many, .int .i64 r.total] ∧ Below w1.heap.size W3 wr) (fun i wr => cl - (intOf i).toNat)
    case atStart => exact ⟨0, rfl, Nat.zero_le _, rm, rd, k3, Below.refl _ _⟩
    case round =>
      clear rm rd k3
      obtain ⟨k, rfl, hk, rm, rd, k3, hb3⟩ := hrel
      by_cases hlt : k < cl
      · have hk0 : (0 : Int) ≤ (k : Int) + 1 := by omega
        have hk1 : (k : Int) < (cl : Int) := by omega
        have u1 := IntWalk.i64_in ((k : Int) + 1) (by omega)
        have u2 := IntWalk.i64_in (-(cl : Int)) (by omega)
        have u3 := IntWalk.i64_in (-(cl : Int) - 1) (by omega)
        have hset := Lib.hid (bfI_set l (k := k) (by rw [hcl.out]; exact hlt))
        rw [hcl.out] at hset
        obtain ⟨v0, hcc⟩ := own_cell rm (j := k + 1) (by omega)
        have hfr := rm.frozenAt (k + 1)
        have rm2 := Lib.hid ((rm.stored (k + 1) (.int .i64 (-(cl : Int) - 1))).1)
        rw [← List.map_set, hset.out] at rm2
        have rd2 := ownsRow_setCell rd (p := ⟨g4, k + 1, none⟩) (fun e => hne (by simpa [Value.ownBlock] using e.symm)) (.int .i64 (-(cl : Int) - 1))
        have hbz := hb3.setCell (p := ⟨g4, k + 1, none⟩) (by dsimp only; omega) (.int .i64 (-(cl : Int) - 1))
        have k3z := k3.far (p := ⟨g4, k + 1, none⟩) (by dsimp only; omega) (.int .i64 (-(cl : Int) - 1))
        have hkn : ((k : Int) + 1).toNat = k + 1 := by omega
        go_wp2_with fail
        go_roundw
        case rel => exact ⟨k + 1, by go_num, by omega, rm2.out, rd2, k3z, hbz⟩
        case measure => simp [intOf]; omega
      · obtain rfl : k = cl := by omega
        have hrm : bfI l k = bf0 l := by have := bfI_end l; rw [hcl.out] at this; exact this
        rw [hrm] at rm
        clear hrm
        have hbf := bf_start hr l
        rw [hcl.out] at hbf
        replace b := b.trans (hb3.mono (by omega))
        clear hb3
        have hs1 := hs0.out.below b
        have hz3 := (rm.lt g4 rfl).2
        have hz5 := (rd.lt g5 rfl).2
        obtain ⟨c3, f3, l3⟩ := k3.rules
        go_wp2_with fail
        refine (hed _ hs1).mono ?_
        rintro e W4 ⟨O, co, rfl, hE, hb⟩
        clear hed hs1 c3 f3 l3
        replace rm := ownsRow_below rm hb
        replace rd := ownsRow_below rd hb
        replace b := b.trans (hb.mono b.size)
        clear hb k3
        have hmemE := fun x (hx : x ∈ edgesS r l) => edgOk_mem hr hx
        replace hmemE := Lib.hid hmemE
        obtain ⟨ne, hne⟩ : ∃ ne, (edgesS r l).length = ne := ⟨_, rfl⟩
        rw [hne] at hE
        rw [hne]
        have hle := edgesTo_len r l 3
        rw [hl.out, show edgesTo r l 3 = edgesS r l from rfl, hne] at hle
        have hEl := Lib.hid hne
        clear hne
        go_wp2_with fail
        generalize wr.heap.size = B3 at *
        go_loopg [9] (gapS r l (bf0 l) (cnt l + 1) + 1) (fun gk ch wr => ∃ (cb : Bool) (m : List Int) (d : List Edg), ch = .bool cb ∧ BF r l m d ∧ wr.ownsRow w1.heap.size 3 1 (.slice (some ⟨g4, 0, none⟩) (k + 1) (k + 1)) (k + 1) (m.map (Value.int .i64)) ∧ wr.ownsRow w1.heap.size 226 5 (.slice (some ⟨g5, 0, none⟩) (k + 1) (k + 1)) (k + 1) (d.flatMap Edg.cells) ∧ SlAt wr B3 5 Edg.cells O ne co (edgesS r l) ∧ Below w.heap.size w wr ∧ WaveRel r l gk cb m)
        case atStart => exact ⟨true, _, _, rfl, hbf, rm, rd, hE, b, .inr ⟨rfl, by omega⟩⟩
        case round =>
          clear hbf rm rd hE b
          obtain ⟨cb, m, d, rfl, hbf, rm, rd, hE, b, hwv⟩ := hrel
          cases cb with
          | false =>
            have hall : ∀ x ∈ edgesS r l, holdsE m x := by
              rcases hwv with ⟨-, h⟩ | ⟨h, -⟩
              · exact h
              · cases h
            have hch := chain_of hr hbf hall
            have hmg := gL_of hr hbf hall
            have hOm := SlAt.ownQ (enc := ivs) rm (by omega) m (by rw [flatMap_ivs]) (fun _ => rfl) (by rw [hbf.lm, hcl.out])
            have hOd := SlAt.ownQ (enc := Edg.cells) rd (by omega) d rfl (fun _ => rfl) (by rw [hbf.ld, hcl.out])
            clear hall hwv rm rd hE
            go_wp2_with fail
            go_ret2
            exact ⟨_, _, _, _, d, by rw [hcl.out]; rfl, by rw [hcl.out, ← hmg]; exact hOm.mono (by omega), by rw [hcl.out]; exact hOd.mono (by omega), hch, b⟩
          | true =>
            have hgap : gapS r l m (cnt l + 1) < gk := by
              rcases hwv with ⟨h, -⟩ | ⟨-, h⟩
              · cases h
              · exact h
            clear hwv
            have hps := pass_start r l m
            replace hgap := Lib.hid hgap
            go_wp2_with fail
            go_loopw [9, 40] (fun ch i wr => ∃ (q : Nat) (cb : Bool) (m' : List Int) (d' : List Edg), i = .int .i64 (q : Int) ∧ ch = .bool cb ∧ q ≤ ne ∧ BF r l m' d' ∧ wr.ownsRow w1.heap.size 3 1 (.slice (some ⟨g4, 0, none⟩) (k + 1) (k + 1)) (k + 1) (m'.map (Value.int .i64)) ∧ wr.ownsRow w1.heap.size 226 5 (.slice (some ⟨g5, 0, none⟩) (k + 1) (k + 1)) (k + 1) (d'.flatMap Edg.cells) ∧ SlAt wr B3 5 Edg.cells O ne co (edgesS r l) ∧ Below w.heap.size w wr ∧ PassRel r l m q cb m') (fun ch i wr => ne - (intOf i).toNat)
            case atStart => exact ⟨0, false, m, d, rfl, rfl, Nat.zero_le _, hbf, rm, rd, hE, b, hps⟩
            case round =>
              clear hbf rm rd hE b hps
              obtain ⟨q, cb, m', d', rfl, rfl, hq, hbf, rm, rd, hE, b, hps⟩ := hrel
              by_cases hqn : q < ne
              · have hq0 : (0 : Int) ≤ (q : Int) := by omega
                have hq1 : (q : Int) < (ne : Int) := by omega
                obtain ⟨x, hx⟩ := some_of_lt hEl.out hqn
                obtain ⟨bE, oE, hA, hbE1, hbE2, e0, e1, e2, e3, e4⟩ := hE.edg hx
                subst hA
                have hxm := List.mem_of_getElem? hx
                have hxo := hmemE.out x hxm
                have hlo1 := hbf.lo x.fr hxo.fr
                have hle1 := hbf.le x.fr hxo.fr
                have hlo2 := hbf.lo x.tt hxo.tt
                have hle2 := hbf.le x.tt hxo.tt
                have hgb1 := gS_bd hr l x.fr hxo.fr
                have hgb2 := gS_bd hr l x.tt hxo.tt
                have hmfr : m'[x.fr]? = some (m'.getD x.fr 0) := getD_of_lt (by rw [hbf.lm]; have := hxo.fr; omega)
                have hmtt : m'[x.tt]? = some (m'.getD x.tt 0) := getD_of_lt (by rw [hbf.lm]; have := hxo.tt; omega)
                have hfrc := hxo.fr
                have httc := hxo.tt
                have hnec := hxo.ne
                have hlsc := hxo.lo
                have hhic := hxo.hi
                rw [hl.out] at hhic
                rw [hcl.out] at hfrc httc hlo1 hlo2
                have hrl := fun hgt => bf_relax hr hbf hxm hgt
                have hpr := fun hgt hle => pass_relax hps hbf.lm hxo.tt hgt hle
                have hph := fun hh => pass_hold hps hx hh
                have hokc := hxo.ok
                obtain ⟨f, t, ls, ⟨ru, cf⟩⟩ := x
                dsimp only at *
                replace hrl := Lib.hid hrl
                replace hpr := Lib.hid hpr
                replace hph := Lib.hid hph
                replace hx := Lib.hid hx
                replace hxm := Lib.hid hxm
                replace hps := Lib.hid hps
                replace hbf := Lib.hid hbf
                obtain ⟨mf, hmf⟩ : ∃ mf, m'.getD f 0 = mf := ⟨_, rfl⟩
                obtain ⟨mt, hmt⟩ : ∃ mt, m'.getD t 0 = mt := ⟨_, rfl⟩
                rw [hmf] at hlo1 hle1 hmfr hrl hpr
                rw [hmt] at hlo2 hle2 hmtt hrl hpr
                obtain ⟨hg1, hg2⟩ := hgb1
                obtain ⟨hg3, hg4⟩ := hgb2
                have cmf := rm.cellAt f (by omega)
                rw [List.getElem?_map, hmfr] at cmf
                simp only [Option.map_some] at cmf
                have cmt := rm.cellAt t (by omega)
                rw [List.getElem?_map, hmtt] at cmt
                simp only [Option.map_some] at cmt
                have u1 := IntWalk.i64_in (mf + ls) (by omega)
                have z1 : (0 : Int) ≤ (f : Int) := by omega
                have z2 : (f : Int) < (k : Int) + 1 := by omega
                have z3 : (0 : Int) ≤ (t : Int) := by omega
                have z4 : (t : Int) < (k : Int) + 1 := by omega
                have z5 : (0 : Int) < (k : Int) + 1 := by omega
                clear hmfr hmtt hg1 hg2 hg3 hg4
                have kx := Blk.new wr 226 #[.int .i64 (f : Int), .int .i64 (t : Int), .int .i64 ls, .int .i64 ru, .int .i64 cf]
                have hgx4 := (rm.lt g4 rfl).2
                have hgx5 := (rd.lt g5 rfl).2
                have hal := (Below.refl wr.heap.size wr).alloc (Nat.le_refl _) (.cells #[.int .i64 (f : Int), .int .i64 (t : Int), .int .i64 ls, .int .i64 ru, .int .i64 cf] 226)
                have rma := ownsRow_below rm hal
                have rda := ownsRow_below rd hal
                have hEa := hE.below hal
                have ba := b.alloc b.size (.cells #[.int .i64 (f : Int), .int .i64 (t : Int), .int .i64 ls, .int .i64 ru, .int .i64 cf] 226)
                have cmfa := (hal.cell (p := ⟨g4, f, none⟩) hgx4).trans cmf
                have cmta := (hal.cell (p := ⟨g4, t, none⟩) hgx4).trans cmt
                go_upto_region 15 with fail
                clear cmf cmt rm rd hE b hal e0 e1 e2 e3 e4
                generalize wr.alloc (.cells #[.int .i64 (f : Int), .int .i64 (t : Int), .int .i64 ls, .int .i64 ru, .int .i64 cf] 226) = Wq at *
                generalize wr.heap.size = gx at *
                obtain ⟨cx, fx, lx⟩ := kx.rules
                go_wp2_with fail
                go_quiet (fail)
                clear cx fx lx
                have hbd := below_drewN (Below.refl Wq.heap.size Wq) nq
                have cmfb := (hbd.cell (p := ⟨g4, f, none⟩) (rma.lt g4 rfl).2).trans cmfa
                replace kx := kx.below hbd
                replace rma := ownsRow_below rma hbd
                replace rda := ownsRow_below rda hbd
                replace hEa := hEa.below hbd
                replace ba := ba.trans (hbd.mono ba.size)
                clear hbd cmfa cmta
                generalize Wq.drewN nq = Wr at *
                by_cases hgt : mt < mf + ls
                · obtain ⟨hbf2, ht0⟩ := hrl.out hgt
                  have hps2 := hpr.out hgt (by omega)
                  clear hph
                  replace hbf2 := Lib.hid hbf2
                  replace hps2 := Lib.hid hps2
                  have hgt2 : mf + ls > mt := hgt
                  have hlgx := kx.lt
                  go_wp2_with fail
                  refine wp_held_np (fun w' : World => (∀ j, w'.cell? ⟨gx, j, none⟩ = #[Value.int .i64 (f : Int), .int .i64 (t : Int), .int .i64 ls, .int .i64 ru, .int .i64 cf][j]?) ∧ w'.cell? ⟨g4, f, none⟩ = some (.int .i64 mf)) (by kernel_rfl) ?_
                  have hSx : (fun w' : World => (∀ j, w'.cell? ⟨gx, j, none⟩ = #[Value.int .i64 (f : Int), .int .i64 (t : Int), .int .i64 ls, .int .i64 ru, .int .i64 cf][j]?) ∧ w'.cell? ⟨g4, f, none⟩ = some (.int .i64 mf)) Wr.drew := ⟨kx.drew.cell, cmfb⟩
                  replace kx := kx.drew
                  replace rma : Wr.drew.ownsRow _ _ _ _ _ _ := rma
                  replace rda : Wr.drew.ownsRow _ _ _ _ _ _ := rda
                  replace hEa : SlAt Wr.drew _ _ _ _ _ _ _ := hEa
                  replace ba := ba.drew
                  clear cmfb
                  generalize Wr.drew = Ws at *
                  refine held_take (i := 0) (v := ?_) 58 rfl rfl (by kernel_rfl) (by kernel_rfl) (by kernel_rfl) (fun _ _ _ h => h) (Or.inl ⟨by rfl, ?_⟩) hSx ?_
                  rotate_left 1
                  · intro w' hSw
                    try dsimp only at hSw
                    obtain ⟨q1, q2⟩ := hSw
                    go_simp
                    all_goals with_reducible rfl
                  try simp only [Act.put, List.setIfInBounds_toArray, List.set_cons_zero, List.set_cons_succ]
                  refine held_take (i := 1) (v := ?_) 59 rfl rfl (by kernel_rfl) (by kernel_rfl) (by kernel_rfl) (fun _ _ _ h => h) (Or.inl ⟨by rfl, ?_⟩) hSx ?_
                  rotate_left 1
                  · intro w' hSw
                    try dsimp only at hSw
                    obtain ⟨q1, q2⟩ := hSw
                    go_simp
                    all_goals with_reducible rfl
                  try simp only [Act.put, List.setIfInBounds_toArray, List.set_cons_zero, List.set_cons_succ]
                  refine held_take (i := 2) (v := ?_) 60 rfl rfl (by kernel_rfl) (by kernel_rfl) (by kernel_rfl) (fun _ _ _ h => h) (Or.inl ⟨by rfl, ?_⟩) hSx ?_
                  rotate_left 1
                  · intro w' hSw
                    try dsimp only at hSw
                    obtain ⟨q1, q2⟩ := hSw
                    go_simp
                    all_goals with_reducible rfl
                  try simp only [Act.put, List.setIfInBounds_toArray, List.set_cons_zero, List.set_cons_succ]
                  refine held_take (i := 3) (v := ?_) 61 rfl rfl (by kernel_rfl) (by kernel_rfl) (by kernel_rfl) (fun _ _ _ h => h) (Or.inl ⟨by rfl, ?_⟩) hSx ?_
                  rotate_left 1
                  · intro w' hSw
                    try dsimp only at hSw
                    obtain ⟨q1, q2⟩ := hSw
                    go_simp
                    all_goals with_reducible rfl
                  try simp only [Act.put, List.setIfInBounds_toArray, List.set_cons_zero, List.set_cons_succ]
                  refine held_take (i := 4) (v := ?_) 62 rfl rfl (by kernel_rfl) (by kernel_rfl) (by kernel_rfl) (fun _ _ _ h => h) (Or.inl ⟨by rfl, ?_⟩) hSx ?_
                  rotate_left 1
                  · intro w' hSw
                    try dsimp only at hSw
                    obtain ⟨q1, q2⟩ := hSw
                    go_simp
                    all_goals with_reducible rfl
                  try simp only [Act.put, List.setIfInBounds_toArray, List.set_cons_zero, List.set_cons_succ]
                  refine held_take (i := 5) (v := ?_) 63 rfl rfl (by kernel_rfl) (by kernel_rfl) (by kernel_rfl) (fun _ _ _ h => h) (Or.inl ⟨by rfl, ?_⟩) hSx ?_
                  rotate_left 1
                  · intro w' hSw
                    try dsimp only at hSw
                    obtain ⟨q1, q2⟩ := hSw
                    go_simp
                    all_goals with_reducible rfl
                  try simp only [Act.put, List.setIfInBounds_toArray, List.set_cons_zero, List.set_cons_succ]
                  refine held_take (i := 6) (v := ?_) 64 rfl rfl (by kernel_rfl) (by kernel_rfl) (by kernel_rfl) (fun _ _ _ h => h) (Or.inl ⟨by rfl, ?_⟩) hSx ?_
                  rotate_left 1
                  · intro w' hSw
                    try dsimp only at hSw
                    obtain ⟨q1, q2⟩ := hSw
                    go_simp
                    all_goals with_reducible rfl
                  try simp only [Act.put, List.setIfInBounds_toArray, List.set_cons_zero, List.set_cons_succ]
                  refine held_take (i := 7) (v := ?_) 65 rfl rfl (by kernel_rfl) (by kernel_rfl) (by kernel_rfl) (fun _ _ _ h => h) (Or.inl ⟨by rfl, ?_⟩) hSx ?_
                  rotate_left 1
                  · intro w' hSw
                    try dsimp only at hSw
                    obtain ⟨q1, q2⟩ := hSw
                    go_simp
                    all_goals with_reducible rfl
                  try simp only [Act.put, List.setIfInBounds_toArray, List.set_cons_zero, List.set_cons_succ]
                  refine held_take (i := 8) (v := ?_) 66 rfl rfl (by kernel_rfl) (by kernel_rfl) (by kernel_rfl) (fun _ _ _ h => h) (Or.inl ⟨by rfl, ?_⟩) hSx ?_
                  rotate_left 1
                  · intro w' hSw
                    try dsimp only at hSw
                    obtain ⟨q1, q2⟩ := hSw
                    go_simp
                    all_goals with_reducible rfl
                  try simp only [Act.put, List.setIfInBounds_toArray, List.set_cons_zero, List.set_cons_succ]
                  refine held_take (i := 9) (v := ?_) 67 rfl rfl (by kernel_rfl) (by kernel_rfl) (by kernel_rfl) (fun _ _ _ h => h) (Or.inl ⟨by rfl, ?_⟩) hSx ?_
                  rotate_left 1
                  · intro w' hSw
                    try dsimp only at hSw
                    obtain ⟨q1, q2⟩ := hSw
                    go_simp
                    all_goals with_reducible rfl
                  try simp only [Act.put, List.setIfInBounds_toArray, List.set_cons_zero, List.set_cons_succ]
                  refine held_take (i := 10) (v := ?_) 68 rfl rfl (by kernel_rfl) (by kernel_rfl) (by kernel_rfl) (fun _ _ _ h => h) (Or.inl ⟨by rfl, ?_⟩) hSx ?_
                  rotate_left 1
                  · intro w' hSw
                    try dsimp only at hSw
                    obtain ⟨q1, q2⟩ := hSw
                    go_simp
                    all_goals with_reducible rfl
                  try simp only [Act.put, List.setIfInBounds_toArray, List.set_cons_zero, List.set_cons_succ]
                  refine held_take (i := 11) (v := ?_) 69 rfl rfl (by kernel_rfl) (by kernel_rfl) (by kernel_rfl) (fun _ _ _ h => h) (Or.inl ⟨by rfl, ?_⟩) hSx ?_
                  rotate_left 1
                  · intro w' hSw
                    try dsimp only at hSw
                    obtain ⟨q1, q2⟩ := hSw
                    go_simp
                    all_goals with_reducible rfl
                  try simp only [Act.put, List.setIfInBounds_toArray, List.set_cons_zero, List.set_cons_succ]
                  refine held_take (i := 12) (v := ?_) 70 rfl rfl (by kernel_rfl) (by kernel_rfl) (by kernel_rfl) (fun _ _ _ h => h) (Or.inl ⟨by rfl, ?_⟩) hSx ?_
                  rotate_left 1
                  · intro w' hSw
                    try dsimp only at hSw
                    obtain ⟨q1, q2⟩ := hSw
                    go_simp
                    all_goals with_reducible rfl
                  try simp only [Act.put, List.setIfInBounds_toArray, List.set_cons_zero, List.set_cons_succ]
                  refine held_take (i := 13) (v := ?_) 71 rfl rfl (by kernel_rfl) (by kernel_rfl) (by kernel_rfl) (fun _ _ _ h => h) (Or.inl ⟨by rfl, ?_⟩) hSx ?_
                  rotate_left 1
                  · intro w' hSw
                    try dsimp only at hSw
                    obtain ⟨q1, q2⟩ := hSw
                    go_simp
                    all_goals with_reducible rfl
                  try simp only [Act.put, List.setIfInBounds_toArray, List.set_cons_zero, List.set_cons_succ]
                  refine held_take (i := 14) (v := ?_) 72 rfl rfl (by kernel_rfl) (by kernel_rfl) (by kernel_rfl) (fun _ _ _ h => h) (Or.inl ⟨by rfl, ?_⟩) hSx ?_
                  rotate_left 1
                  · intro w' hSw
                    try dsimp only at hSw
                    obtain ⟨q1, q2⟩ := hSw
                    go_simp
                    all_goals with_reducible rfl
                  try simp only [Act.put, List.setIfInBounds_toArray, List.set_cons_zero, List.set_cons_succ]
                  refine held_take (i := 15) (v := ?_) 73 rfl rfl (by kernel_rfl) (by kernel_rfl) (by kernel_rfl) (fun _ _ _ h => h) (Or.inl ⟨by rfl, ?_⟩) hSx ?_
                  rotate_left 1
                  · intro w' hSw
                    try dsimp only at hSw
                    obtain ⟨q1, q2⟩ := hSw
                    go_simp
                    all_goals with_reducible rfl
                  try simp only [Act.put, List.setIfInBounds_toArray, List.set_cons_zero, List.set_cons_succ]
                  have rm2 := ((rma.stored t (.int .i64 (mf + ls))).1)
                  rw [← List.map_set] at rm2
                  have rd1 := ownsRow_setCell rda (p := ⟨g4, t, none⟩) (fun e => hne (by simpa [Value.ownBlock] using e.symm)) (.int .i64 (mf + ls))
                  have kx1 := kx.far (p := ⟨g4, t, none⟩) (by dsimp only; omega) (.int .i64 (mf + ls))
                  have hE1 := hEa.setCell (p := ⟨g4, t, none⟩) (by dsimp only; omega) (.int .i64 (mf + ls))
                  have b1 := ba.setCell (p := ⟨g4, t, none⟩) (by dsimp only; omega) (.int .i64 (mf + ls))
                  have cmf1 : (Ws.setCell ⟨g4, t, none⟩ (.int .i64 (mf + ls))).cell? ⟨g4, f, none⟩ = some (.int .i64 mf) := by
                    have := (rma.stored t (.int .i64 (mf + ls))).1.cellAt f (by omega)
                    rw [this, List.getElem?_set, if_neg (by omega)]
                    have h2 := rma.cellAt f (by omega)
                    rw [hSx.2] at h2
                    exact h2.symm
                  obtain ⟨v0, hcc⟩ := own_cell rma (j := t) (by omega)
                  have hfr := rma.frozenAt t
                  refine held_one (i := 16) (by kernel_rfl) rfl rfl (fun K hK => ?_)
                  go_simp
                  clear hcc hfr hSx
                  generalize Ws.setCell ⟨g4, t, none⟩ (.int .i64 (mf + ls)) = Wt at *
                  have hSx : (fun w' : World => (∀ j, w'.cell? ⟨gx, j, none⟩ = #[Value.int .i64 (f : Int), .int .i64 (t : Int), .int .i64 ls, .int .i64 ru, .int .i64 cf][j]?) ∧ w'.cell? ⟨g4, f, none⟩ = some (.int .i64 mf)) Wt := ⟨kx1.cell, cmf1⟩
                  refine hK _ _ hSx ?_
                  clear hK K rma rda kx hEa ba cmf1
                  try simp only [Act.put, List.setIfInBounds_toArray, List.set_cons_zero, List.set_cons_succ]
                  refine held_take (i := 17) (v := ?_) 74 rfl rfl (by kernel_rfl) (by kernel_rfl) (by kernel_rfl) (fun _ _ _ h => h) (Or.inl ⟨by rfl, ?_⟩) hSx ?_
                  rotate_left 1
                  · intro w' hSw
                    try dsimp only at hSw
                    obtain ⟨q1, q2⟩ := hSw
                    go_simp
                    all_goals with_reducible rfl
                  try simp only [Act.put, List.setIfInBounds_toArray, List.set_cons_zero, List.set_cons_succ]
                  have rdz := (((((rd1.stored (t * 5) (.int .i64 (f : Int))).1.stored (t * 5 + 1) (.int .i64 (t : Int))).1.stored (t * 5 + 2) (.int .i64 ls)).1.stored (t * 5 + 3) (.int .i64 ru)).1.stored (t * 5 + 4) (.int .i64 cf)).1
                  rw [flatMap_set5 d' t ⟨f, t, ls, ⟨ru, cf⟩⟩] at rdz
                  have bz := ((((b1.setCell (p := ⟨g5, t * 5, none⟩) (by dsimp only; omega) (.int .i64 (f : Int))).setCell (p := ⟨g5, t * 5 + 1, none⟩) (by dsimp only; omega) (.int .i64 (t : Int))).setCell (p := ⟨g5, t * 5 + 2, none⟩) (by dsimp only; omega) (.int .i64 ls)).setCell (p := ⟨g5, t * 5 + 3, none⟩) (by dsimp only; omega) (.int .i64 ru)).setCell (p := ⟨g5, t * 5 + 4, none⟩) (by dsimp only; omega) (.int .i64 cf)
                  have hEz := ((((hE1.setCell (p := ⟨g5, t * 5, none⟩) (by dsimp only; omega) (.int .i64 (f : Int))).setCell (p := ⟨g5, t * 5 + 1, none⟩) (by dsimp only; omega) (.int .i64 (t : Int))).setCell (p := ⟨g5, t * 5 + 2, none⟩) (by dsimp only; omega) (.int .i64 ls)).setCell (p := ⟨g5, t * 5 + 3, none⟩) (by dsimp only; omega) (.int .i64 ru)).setCell (p := ⟨g5, t * 5 + 4, none⟩) (by dsimp only; omega) (.int .i64 cf)
                  have hn45 : (Value.slice (some ⟨g4, 0, none⟩) (k + 1) (k + 1)).ownBlock ≠ some g5 := fun e => hne (by simpa [Value.ownBlock] using e)
                  have rmz := ownsRow_setCell (ownsRow_setCell (ownsRow_setCell (ownsRow_setCell (ownsRow_setCell rm2 (p := ⟨g5, t * 5, none⟩) hn45 (.int .i64 (f : Int))) (p := ⟨g5, t * 5 + 1, none⟩) hn45 (.int .i64 (t : Int))) (p := ⟨g5, t * 5 + 2, none⟩) hn45 (.int .i64 ls)) (p := ⟨g5, t * 5 + 3, none⟩) hn45 (.int .i64 ru)) (p := ⟨g5, t * 5 + 4, none⟩) hn45 (.int .i64 cf)
                  have kxz := ((((kx1.far (p := ⟨g5, t * 5, none⟩) (by dsimp only; omega) (.int .i64 (f : Int))).far (p := ⟨g5, t * 5 + 1, none⟩) (by dsimp only; omega) (.int .i64 (t : Int))).far (p := ⟨g5, t * 5 + 2, none⟩) (by dsimp only; omega) (.int .i64 ls)).far (p := ⟨g5, t * 5 + 3, none⟩) (by dsimp only; omega) (.int .i64 ru)).far (p := ⟨g5, t * 5 + 4, none⟩) (by dsimp only; omega) (.int .i64 cf)
                  obtain ⟨y0, y0c⟩ := own_cell rd1 (j := t * 5) (by omega)
                  obtain ⟨y1, y1c⟩ := own_cell rd1 (j := t * 5 + 1) (by omega)
                  obtain ⟨y2, y2c⟩ := own_cell rd1 (j := t * 5 + 2) (by omega)
                  obtain ⟨y3, y3c⟩ := own_cell rd1 (j := t * 5 + 3) (by omega)
                  obtain ⟨y4, y4c⟩ := own_cell rd1 (j := t * 5 + 4) (by omega)
                  have f0 := rd1.frozenAt (t * 5)
                  have f1 := rd1.frozenAt (t * 5 + 1)
                  have f2 := rd1.frozenAt (t * 5 + 2)
                  have f3 := rd1.frozenAt (t * 5 + 3)
                  have f4 := rd1.frozenAt (t * 5 + 4)
                  refine held_one (i := 18) (by kernel_rfl) rfl rfl (fun K hK => ?_)
                  go_simp
                  have cmfz : (((((Wt.setCell ⟨g5, t * 5, none⟩ (.int .i64 (f : Int))).setCell ⟨g5, t * 5 + 1, none⟩ (.int .i64 (t : Int))).setCell ⟨g5, t * 5 + 2, none⟩ (.int .i64 ls)).setCell ⟨g5, t * 5 + 3, none⟩ (.int .i64 ru)).setCell ⟨g5, t * 5 + 4, none⟩ (.int .i64 cf)).cell? ⟨g4, f, none⟩ = some (.int .i64 mf) := by
                    rw [rmz.cellAt f (by omega), ← rm2.cellAt f (by omega)]
                    exact hSx.2
                  clear y0c y1c y2c y3c y4c f0 f1 f2 f3 f4 hSx
                  generalize ((((Wt.setCell ⟨g5, t * 5, none⟩ (.int .i64 (f : Int))).setCell ⟨g5, t * 5 + 1, none⟩ (.int .i64 (t : Int))).setCell ⟨g5, t * 5 + 2, none⟩ (.int .i64 ls)).setCell ⟨g5, t * 5 + 3, none⟩ (.int .i64 ru)).setCell ⟨g5, t * 5 + 4, none⟩ (.int .i64 cf) = Wu at *
                  have hSx : (fun w' : World => (∀ j, w'.cell? ⟨gx, j, none⟩ = #[Value.int .i64 (f : Int), .int .i64 (t : Int), .int .i64 ls, .int .i64 ru, .int .i64 cf][j]?) ∧ w'.cell? ⟨g4, f, none⟩ = some (.int .i64 mf)) Wu := ⟨kxz.cell, cmfz⟩
                  refine hK _ _ hSx ?_
                  clear hK K
                  try simp only [Act.put, List.setIfInBounds_toArray, List.set_cons_zero, List.set_cons_succ]
                  refine held_take (i := 19) (v := ?_) 9 rfl rfl (by kernel_rfl) (by kernel_rfl) (by kernel_rfl) (fun _ _ _ h => h) (Or.inl ⟨by rfl, ?_⟩) hSx ?_
                  rotate_left 1
                  · intro w' hSw
                    try dsimp only at hSw
                    obtain ⟨q1, q2⟩ := hSw
                    go_simp
                    all_goals with_reducible rfl
                  try simp only [Act.put, List.setIfInBounds_toArray, List.set_cons_zero, List.set_cons_succ]
                  refine wpAnyH_done (by kernel_rfl) (noPanic_normal ?_) _
                  clear hSx cmfz kxz kx1 rm2 rd1 hE1 b1
                  replace hmf := Lib.hid hmf
                  replace hmt := Lib.hid hmt
                  go_wp2_with fail
                  go_roundw
                  case rel => exact ⟨q + 1, true, _, _, by go_num, rfl, by omega, hbf2.out, rmz, rdz, hEz, bz, hps2.out⟩
                  case measure => simp [intOf]; omega
                · have hle9 : ¬ mf + ls > mt := by omega
                  have hle8 : mf + ls ≤ mt := by omega
                  have hp2 := hph.out (by unfold holdsE; rw [hmf, hmt]; exact hle8)
                  replace hp2 := Lib.hid hp2
                  replace hmf := Lib.hid hmf
                  replace hmt := Lib.hid hmt
                  clear hgt
                  go_wp2_with fail
                  go_roundw
                  case rel => exact ⟨q + 1, cb, m', d', by go_num, rfl, by omega, hbf.out, rma, rda, hEa, ba, hp2.out⟩
                  case measure => simp [intOf]; omega
              · obtain rfl : q = ne := by omega
                rw [← hEl.out] at hps
                obtain ⟨k', hk', hwv'⟩ := pass_end hps hgap.out
                go_wp2_with fail
                go_roundg k'
                case measure => exact hk'
                case rel => exact ⟨cb, m', d', rfl, hbf, rm, rd, hE, b, hwv'⟩
  · try simp only [Act.put, List.setIfInBounds_toArray, List.set_cons_zero, List.set_cons_succ] at hrest
    refine held_two (i := 2) (j := 5) (by kernel_rfl) rfl rfl rfl rfl (fun K hK => ?_) (fun K hK => ?_)
    · skip
      refine wp_make_fullQ wd _ _ 36 rfl w1.heap.size 3 i0 (.int .i64 0) 1 Tryz.underlying36 hi0 hz0 hz1 _ _ _ _ (cl + 1) rfl rfl (by rfl) (by rfl) hc1.out hc2.out hbz.size ?_
      intro X1 r2 hgrow
      have lt2 := (r2.lt _ rfl).2
      have hbel := (Below.refl wd.heap.size wd).grown hgrow (Nat.le_refl _) (fun k e => by cases e)
      try replace r2 := ownsRow_below r2 hbel
      try replace r5 := ownsRow_below r5 hbel
      replace hbz := hbz.trans (hbel.mono hbz.size)
      clear hbel hgrow
      refine hK _ _ trivial ?_
      clear hK K
      try simp only [Act.put, List.setIfInBounds_toArray, List.set_cons_zero, List.set_cons_succ]
      have hS : (fun w' : World => True) X1 := trivial
      refine held_take (i := 6) (v := ?_) 4 rfl rfl (by kernel_rfl) (by kernel_rfl) (by kernel_rfl) (fun _ _ _ h => h) (Or.inl ⟨by rfl, ?_⟩) hS ?_
      rotate_left 1
      · intro w' hSw
        try dsimp only at hSw
        obtain h9 := hSw
        go_simp
        all_goals with_reducible rfl
      try simp only [Act.put, List.setIfInBounds_toArray, List.set_cons_zero, List.set_cons_succ]
      clear hS
      refine held_one (i := 5) (by kernel_rfl) rfl rfl (fun K hK => ?_)
      refine wp_make_fullQ X1 _ _ 189 rfl w1.heap.size 226 ie (.agg #[.int .i64 0, .int .i64 0, .int .i64 0, .int .i64 0, .int .i64 0]) 5 Tryz.underlying189 hie hy0 hy1 _ _ _ _ (cl + 1) rfl rfl (by rfl) (by rfl) hc3.out hc2.out hbz.size ?_
      intro X2 r5 hgrow
      have lt5 := (r5.lt _ rfl).2
      have hbel := (Below.refl X1.heap.size X1).grown hgrow (Nat.le_refl _) (fun k e => by cases e)
      try replace r2 := ownsRow_below r2 hbel
      try replace r5 := ownsRow_below r5 hbel
      replace hbz := hbz.trans (hbel.mono hbz.size)
      clear hbel hgrow
      refine hK _ _ trivial ?_
      clear hK K
      try simp only [Act.put, List.setIfInBounds_toArray, List.set_cons_zero, List.set_cons_succ]
      have hS : (fun w' : World => True) X2 := trivial
      refine held_take (i := 7) (v := ?_) 5 rfl rfl (by kernel_rfl) (by kernel_rfl) (by kernel_rfl) (fun _ _ _ h => h) (Or.inl ⟨by rfl, ?_⟩) hS ?_
      rotate_left 1
      · intro w' hSw
        try dsimp only at hSw
        obtain h9 := hSw
        go_simp
        all_goals with_reducible rfl
      try simp only [Act.put, List.setIfInBounds_toArray, List.set_cons_zero, List.set_cons_succ]
      refine wpAnyH_done (by kernel_rfl) (hrest (_, _) _ ⟨r2, r5, (fun e => by have h2 := lt2; have h5 := lt5; simp only [Array.length_toList] at e h2 h5; omega), hbz⟩) _
    · skip
      refine wp_make_fullQ wd _ _ 189 rfl w1.heap.size 226 ie (.agg #[.int .i64 0, .int .i64 0, .int .i64 0, .int .i64 0, .int .i64 0]) 5 Tryz.underlying189 hie hy0 hy1 _ _ _ _ (cl + 1) rfl rfl (by rfl) (by rfl) hc3.out hc2.out hbz.size ?_
      intro X3 r5 hgrow
      have lt5 := (r5.lt _ rfl).2
      have hbel := (Below.refl wd.heap.size wd).grown hgrow (Nat.le_refl _) (fun k e => by cases e)
      try replace r2 := ownsRow_below r2 hbel
      try replace r5 := ownsRow_below r5 hbel
      replace hbz := hbz.trans (hbel.mono hbz.size)
      clear hbel hgrow
      refine hK _ _ trivial ?_
      clear hK K
      try simp only [Act.put, List.setIfInBounds_toArray, List.set_cons_zero, List.set_cons_succ]
      refine held_one (i := 2) (by kernel_rfl) rfl rfl (fun K hK => ?_)
      refine wp_make_fullQ X3 _ _ 36 rfl w1.heap.size 3 i0 (.int .i64 0) 1 Tryz.underlying36 hi0 hz0 hz1 _ _ _ _ (cl + 1) rfl rfl (by rfl) (by rfl) hc1.out hc2.out hbz.size ?_
      intro X4 r2 hgrow
      have lt2 := (r2.lt _ rfl).2
      have hbel := (Below.refl X3.heap.size X3).grown hgrow (Nat.le_refl _) (fun k e => by cases e)
      try replace r2 := ownsRow_below r2 hbel
      try replace r5 := ownsRow_below r5 hbel
      replace hbz := hbz.trans (hbel.mono hbz.size)
      clear hbel hgrow
      refine hK _ _ trivial ?_
      clear hK K
      try simp only [Act.put, List.setIfInBounds_toArray, List.set_cons_zero, List.set_cons_succ]
      have hS : (fun w' : World => True) X4 := trivial
      refine held_take (i := 6) (v := ?_) 4 rfl rfl (by kernel_rfl) (by kernel_rfl) (by kernel_rfl) (fun _ _ _ h => h) (Or.inl ⟨by rfl, ?_⟩) hS ?_
      rotate_left 1
      · intro w' hSw
        try dsimp only at hSw
        obtain h9 := hSw
        go_simp
        all_goals with_reducible rfl
      try simp only [Act.put, List.setIfInBounds_toArray, List.set_cons_zero, List.set_cons_succ]
      clear hS
      have hS : (fun w' : World => True) X4 := trivial
      refine held_take (i := 7) (v := ?_) 5 rfl rfl (by kernel_rfl) (by kernel_rfl) (by kernel_rfl) (fun _ _ _ h => h) (Or.inl ⟨by rfl, ?_⟩) hS ?_
      rotate_left 1
      · intro w' hSw
        try dsimp only at hSw
        obtain h9 := hSw
        go_simp
        all_goals with_reducible rfl
      try simp only [Act.put, List.setIfInBounds_toArray, List.set_cons_zero, List.set_cons_succ]
      refine wpAnyH_done (by kernel_rfl) (hrest (_, _) _ ⟨r2, r5, (fun e => by have h2 := lt2; have h5 := lt5; simp only [Array.length_toList] at e h2 h5; omega), hbz⟩) _
end Go.Proofs.YtfengddpfeneiaaGreat
