/-
  Walks, twelfth part: Fastest.
-/
import Derived.Test.YtjiaepphnddpoaaGreatW11
import Derived.Test.YtjiaepphnddpoaaGreatHeld
namespace Go.Proofs.YtjiaepphnddpoaaGreat
set_option linter.unusedSimpArgs false
set_option linter.unusedVariables false
open Go.RowKit Go.Shelf
attribute [local go_sem] Oper.semAt_some

/-! What the map says when step k has come as far as choice j. -/
def fmap (kept : Nat → Nat → Bool) (nc k j : Nat) : Nat → Nat → Bool := fun i q => decide ((i < k ∧ q < nc) ∨ (i = k ∧ q < j)) && kept i q
theorem fmap_zero (kept : Nat → Nat → Bool) (nc : Nat) : fmap kept nc 0 0 = fun _ _ => false := by
  funext i q; simp [fmap]
theorem fmap_next (kept : Nat → Nat → Bool) (nc k : Nat) : fmap kept nc k nc = fmap kept nc (k + 1) 0 := by
  funext i q
  unfold fmap
  congr 1
  apply dec_eq
  omega
theorem fmap_step (kept : Nat → Nat → Bool) (nc k j : Nat) : (fun i q => if i = k ∧ q = j then kept k j else fmap kept nc k j i q) = fmap kept nc k (j + 1) := by
  funext i q
  by_cases h : i = k ∧ q = j
  · obtain ⟨rfl, rfl⟩ := h
    simp [fmap]
  · rw [if_neg h]
    unfold fmap
    congr 1
    apply dec_eq
    omega
theorem pickTo_congr {f g : Nat → Bool} (ch : List Int) : ∀ n, (∀ q, q < n → f q = g q) → pickTo f ch n = pickTo g ch n
  | 0, _ => rfl
  | n + 1, h => by
    rw [pickTo_step, pickTo_step, h n (by omega), pickTo_congr ch n (fun q hq => h q (by omega))]
theorem runPlan_congr {p p' : Nat → Int} (ch : List Int) (nd : Nat) (h : ∀ i, i < nd → p i = p' i) : ∀ r plan way, r ≤ nd → runPlan p ch nd r plan way = runPlan p' ch nd r plan way
  | 0, _, _, _ => rfl
  | r + 1, plan, way, hr => by
    rw [runPlan, runPlan, h _ (by omega)]
    split
    · rfl
    · exact runPlan_congr ch nd h r _ _ (by omega)
theorem KMap.upd {w : World} {b n : Nat} {f : Nat → Nat → Bool} (h : KMap w b n f) {i k : Nat} (x : Bool) (hi : i ≤ 1000000) (hk : k ≤ 1000000) (hn : n < maxLen) :
    ∃ w', (Instr.mapUpdate 125 (.map (some b)) (.agg #[.int .i64 i, .int .i64 k]) (.bool x)).run Tryz.prog w = .ok () w' ∧ KMap w' b (n + 1) (fun i' k' => if i' = i ∧ k' = k then x else f i' k') ∧ w.grownBy w' (some b) := by
  obtain ⟨D, ho, hput⟩ := h.put (w0' := w) (x := x) hi hk
  obtain ⟨w', hrun, h1, h2⟩ := ho.update keyed2 underMap2 hn (keyOf_kl (small_nat hi) (small_nat hk)) (plainElem_bool underBool x)
  exact ⟨w', hrun, hput w' h1, h2⟩
def RetFast (r : List Int × Int × Int) (w : World) (e : Ending) (w' : World) : Prop :=
  ∃ P pn pc, e = .returned (.tuple #[.slice P pn pc, .int .i64 r.2.1, .int .i64 r.2.2]) ∧ SlAt w' w.heap.size 1 ivs P pn pc r.1 ∧ Below w.heap.size w w'
def FastI (s : Strm) (A O D C : Option Addr) (n c co nd cd nc cc gt g12 bm : Nat) (w W : World) : Prop :=
  Blk W (w.heap.size + 1) 30 #[.slice D nd cd] ∧ Blk W (w.heap.size + 1 + 1) 31 #[.slice C nc cc] ∧ Blk W (w.heap.size + 1 + 1 + 1) 31 #[.slice none 0 0] ∧ Blk W (w.heap.size + 1 + 1 + 1 + 1) 3 #[.int .i64 0] ∧
  Blk W gt 104 #[.int .i64 s.head, .slice A n c, .int .i64 s.lane.lo, .int .i64 s.lane.hi, .int .i64 s.bend, .slice O n co] ∧ Blk W g12 125 #[.map (some bm)] ∧ Below w.heap.size w W
section
variable {s : Strm} {A O D C : Option Addr} {n c co nd cd nc cc gt g12 bm : Nat} {w W W' : World}
theorem FastI.calm {B : Nat} (h : FastI s A O D C n c co nd cd nc cc gt g12 bm w W) (hc : Calm B W W') (hB : w.heap.size ≤ B) : FastI s A O D C n c co nd cd nc cc gt g12 bm w W' :=
  ⟨calm_blk hc h.1, calm_blk hc h.2.1, calm_blk hc h.2.2.1, calm_blk hc h.2.2.2.1, calm_blk hc h.2.2.2.2.1, calm_blk hc h.2.2.2.2.2.1, calm_below hc h.2.2.2.2.2.2 hB⟩
theorem FastI.below (h : FastI s A O D C n c co nd cd nc cc gt g12 bm w W) (hb : Below W.heap.size W W') : FastI s A O D C n c co nd cd nc cc gt g12 bm w W' := h.calm (calm_of_below hb (Nat.le_refl _)) h.2.2.2.2.2.2.size
theorem FastI.grown (h : FastI s A O D C n c co nd cd nc cc gt g12 bm w W) (hg : W.grownBy W' (some bm)) (h1 : w.heap.size + 1 + 1 + 1 + 1 < bm) (h2 : gt ≠ bm) (h3 : g12 ≠ bm) : FastI s A O D C n c co nd cd nc cc gt g12 bm w W' :=
  ⟨h.1.grown hg (by simp; omega), h.2.1.grown hg (by simp; omega), h.2.2.1.grown hg (by simp; omega), h.2.2.2.1.grown hg (by simp; omega), h.2.2.2.2.1.grown hg (by simp; omega), h.2.2.2.2.2.1.grown hg (by simp; omega),
    h.2.2.2.2.2.2.trans ⟨hg.os, hg.tape, hg.output, hg.size, fun b hb => hg.block b (by have := h.2.2.2.2.2.2.size; omega) (by simp; omega)⟩⟩
theorem nc_grown {B : Nat} (hg : W.grownBy W' (some bm)) (h : bm < B) : NC B W W' := ⟨hg.size, fun k _ hk ho => (hg.block k (Array.getElem?_eq_some_iff.1 ho).1 (by simp; omega)).trans ho⟩
end
set_option maxRecDepth 100000 in
set_option maxHeartbeats 2000000 in
theorem Fastest_err (s : Strm) (A O D C : Option Addr) (n c no co nd cd nc cc : Nat) (bs : List Bnd) (l : List Wat) (ch : List Int) (w : World) (hss : SlAt w 0 5 Sec.cells A n c s.secs) (hs : SlAt w 0 2 Bnd.cells O no co bs) (hd : SlAt w 0 4 Wat.cells D nd cd l) (hcs : SlAt w 0 1 ivs C nc cc ch) (h1 : errBW s bs l ≠ 0) :
    Calls Tryz.prog 22 #[.agg #[.int .i64 s.head, .slice A n c, .int .i64 s.lane.lo, .int .i64 s.lane.hi, .int .i64 s.bend], .slice O no co, .slice D nd cd, .slice C nc cc] w (RetFast (fastR s bs l ch) w) := by
  have hv : fastR s bs l ch = ([], 0, errBW s bs l) := by simp [fastR, h1]
  rw [hv]
  have h1' : (errBW s bs l != 0) = true := by rw [bne_iff_ne]; exact h1
  replace h1 := Lib.hid h1
  clear hv
  by_cases h2 : errB s bs = 0
  · replace h2 := Lib.hid h2
    refine (callsIn_wide (n := 9)).1 ?_
    refine callsIn_of_wp_marks Tryz.func22 rfl trivial ?_ rfl
    simp only [Tryz.ntmps22, List.size_toArray, List.length_cons, List.length_nil, Nat.reduceAdd, Nat.reduceSub, Array.replicate_succ, Array.replicate_zero, List.push_toArray, List.append_toArray, List.nil_append, List.cons_append]
    refine wpIn_wide.2 ?_
    go_wp2_with fail
    refine (begun_any s A O D n c no co nd cd bs l _ (((((hss.alloc _).alloc _).alloc _).alloc _).alloc _) (((((hs.alloc _).alloc _).alloc _).alloc _).alloc _) (((((hd.alloc _).alloc _).alloc _).alloc _).alloc _)).mono ?_
    rintro e w1 ⟨r1, r2, hb1⟩
    have k6 : Blk w1 (w.heap.size + 1) 30 #[.slice D nd cd] := ((((Blk.newAt (by simp)).alloc _).alloc _).alloc _).below hb1
    have k7 : Blk w1 (w.heap.size + 1 + 1) 31 #[.slice C nc cc] := (((Blk.newAt (by simp)).alloc _).alloc _).below hb1
    have k8 : Blk w1 (w.heap.size + 1 + 1 + 1) 31 #[.slice none 0 0] := ((Blk.newAt (by simp)).alloc _).below hb1
    have k9 : Blk w1 (w.heap.size + 1 + 1 + 1 + 1) 3 #[.int .i64 0] := (Blk.newAt (by simp)).below hb1
    have b1 := ((((((Below.refl w.heap.size w).alloc (Nat.le_refl _) _).alloc (by simp) _).alloc (by simp; omega) _).alloc (by simp; omega) _).alloc (by simp; omega) _).trans (hb1.mono (by simp; omega))
    clear hb1
    obtain rfl := r1 h2.out
    clear r1 r2
    have k8z := ((k8.set_ 0 (.slice none 0 0)).far (p := ⟨w.heap.size + 1 + 1 + 1 + 1, 0, none⟩) (by dsimp only; omega) (.int .i64 0)).alloc (.cells #[.int .i64 s.head, .slice A n c, .int .i64 s.lane.lo, .int .i64 s.lane.hi, .int .i64 s.bend, .slice O no co] 104)
    have k9z := ((k9.far (p := ⟨w.heap.size + 1 + 1 + 1, 0, none⟩) (by dsimp only; omega) (.slice none 0 0)).set_ 0 (.int .i64 0)).alloc (.cells #[.int .i64 s.head, .slice A n c, .int .i64 s.lane.lo, .int .i64 s.lane.hi, .int .i64 s.bend, .slice O no co] 104)
    have bz0 := (b1.setCell (p := ⟨w.heap.size + 1 + 1 + 1, 0, none⟩) (by dsimp only; omega) (.slice none 0 0)).setCell (p := ⟨w.heap.size + 1 + 1 + 1 + 1, 0, none⟩) (by dsimp only; omega) (.int .i64 0)
    have bz := bz0.alloc bz0.size (.cells #[.int .i64 s.head, .slice A n c, .int .i64 s.lane.lo, .int .i64 s.lane.hi, .int .i64 s.bend, .slice O no co] 104)
    obtain ⟨wz, hwz⟩ : ∃ x, x = ((w1.setCell ⟨w.heap.size + 1 + 1 + 1, 0, none⟩ (.slice none 0 0)).setCell ⟨w.heap.size + 1 + 1 + 1 + 1, 0, none⟩ (.int .i64 0)).alloc (.cells #[.int .i64 s.head, .slice A n c, .int .i64 s.lane.lo, .int .i64 s.lane.hi, .int .i64 s.bend, .slice O no co] 104) := ⟨_, rfl⟩
    rw [← hwz] at k8z k9z bz
    obtain ⟨c6, f6, l6⟩ := k6.rules
    obtain ⟨c7, f7, l7⟩ := k7.rules
    obtain ⟨c8, f8, l8⟩ := k8.rules
    obtain ⟨c9, f9, l9⟩ := k9.rules
    clear hss hs hd hcs
    go_wp2_with (go_at_call 68; refine (within_any _ _ _ _).mono ?_; rintro e w' ⟨rfl, rfl⟩)
    rw [← hwz]
    clear hwz c6 f6 l6 c7 f7 l7 c8 f8 l8 c9 f9 l9
    obtain ⟨c8, f8, l8⟩ := k8z.rules
    obtain ⟨c9, f9, l9⟩ := k9z.rules
    exact ⟨.tuple #[.slice none 0 0, .int .i64 0, .int .i64 (errBW s bs l)], by simp [results, Tryz.results22, go_sem, c8, c9], none, 0, 0, rfl, SlAt.nil _ _ _ _, bz⟩
  · replace h2 := Lib.hid h2
    refine (callsIn_wide (n := 9)).1 ?_
    refine callsIn_of_wp_marks Tryz.func22 rfl trivial ?_ rfl
    simp only [Tryz.ntmps22, List.size_toArray, List.length_cons, List.length_nil, Nat.reduceAdd, Nat.reduceSub, Array.replicate_succ, Array.replicate_zero, List.push_toArray, List.append_toArray, List.nil_append, List.cons_append]
    refine wpIn_wide.2 ?_
    go_wp2_with fail
    refine (begun_any s A O D n c no co nd cd bs l _ (((((hss.alloc _).alloc _).alloc _).alloc _).alloc _) (((((hs.alloc _).alloc _).alloc _).alloc _).alloc _) (((((hd.alloc _).alloc _).alloc _).alloc _).alloc _)).mono ?_
    rintro e w1 ⟨r1, r2, hb1⟩
    have k6 : Blk w1 (w.heap.size + 1) 30 #[.slice D nd cd] := ((((Blk.newAt (by simp)).alloc _).alloc _).alloc _).below hb1
    have k7 : Blk w1 (w.heap.size + 1 + 1) 31 #[.slice C nc cc] := (((Blk.newAt (by simp)).alloc _).alloc _).below hb1
    have k8 : Blk w1 (w.heap.size + 1 + 1 + 1) 31 #[.slice none 0 0] := ((Blk.newAt (by simp)).alloc _).below hb1
    have k9 : Blk w1 (w.heap.size + 1 + 1 + 1 + 1) 3 #[.int .i64 0] := (Blk.newAt (by simp)).below hb1
    have b1 := ((((((Below.refl w.heap.size w).alloc (Nat.le_refl _) _).alloc (by simp) _).alloc (by simp; omega) _).alloc (by simp; omega) _).alloc (by simp; omega) _).trans (hb1.mono (by simp; omega))
    clear hb1
    obtain rfl := r2 h2.out
    clear r1 r2
    have k8z := ((k8.set_ 0 (.slice none 0 0)).far (p := ⟨w.heap.size + 1 + 1 + 1 + 1, 0, none⟩) (by dsimp only; omega) (.int .i64 0)).alloc (.cells #[.int .i64 0, .slice none 0 0, .int .i64 0, .int .i64 0, .int .i64 0, .slice none 0 0] 104)
    have k9z := ((k9.far (p := ⟨w.heap.size + 1 + 1 + 1, 0, none⟩) (by dsimp only; omega) (.slice none 0 0)).set_ 0 (.int .i64 0)).alloc (.cells #[.int .i64 0, .slice none 0 0, .int .i64 0, .int .i64 0, .int .i64 0, .slice none 0 0] 104)
    have bz0 := (b1.setCell (p := ⟨w.heap.size + 1 + 1 + 1, 0, none⟩) (by dsimp only; omega) (.slice none 0 0)).setCell (p := ⟨w.heap.size + 1 + 1 + 1 + 1, 0, none⟩) (by dsimp only; omega) (.int .i64 0)
    have bz := bz0.alloc bz0.size (.cells #[.int .i64 0, .slice none 0 0, .int .i64 0, .int .i64 0, .int .i64 0, .slice none 0 0] 104)
    obtain ⟨wz, hwz⟩ : ∃ x, x = ((w1.setCell ⟨w.heap.size + 1 + 1 + 1, 0, none⟩ (.slice none 0 0)).setCell ⟨w.heap.size + 1 + 1 + 1 + 1, 0, none⟩ (.int .i64 0)).alloc (.cells #[.int .i64 0, .slice none 0 0, .int .i64 0, .int .i64 0, .int .i64 0, .slice none 0 0] 104) := ⟨_, rfl⟩
    rw [← hwz] at k8z k9z bz
    obtain ⟨c6, f6, l6⟩ := k6.rules
    obtain ⟨c7, f7, l7⟩ := k7.rules
    obtain ⟨c8, f8, l8⟩ := k8.rules
    obtain ⟨c9, f9, l9⟩ := k9.rules
    clear hss hs hd hcs
    go_wp2_with (go_at_call 68; refine (within_any _ _ _ _).mono ?_; rintro e w' ⟨rfl, rfl⟩)
    rw [← hwz]
    clear hwz c6 f6 l6 c7 f7 l7 c8 f8 l8 c9 f9 l9
    obtain ⟨c8, f8, l8⟩ := k8z.rules
    obtain ⟨c9, f9, l9⟩ := k9z.rules
    exact ⟨.tuple #[.slice none 0 0, .int .i64 0, .int .i64 (errBW s bs l)], by simp [results, Tryz.results22, go_sem, c8, c9], none, 0, 0, rfl, SlAt.nil _ _ _ _, bz⟩
theorem errBW_n {s : Strm} {bs : List Bnd} {l : List Wat} {A O : Option Addr} {n c no co : Nat} {w : World} (h1 : errBW s bs l = 0) (hss : SlAt w 0 5 Sec.cells A n c s.secs) (hs : SlAt w 0 2 Bnd.cells O no co bs) : no = n := by
  have e2 := (errB_zero (errBW_zero h1).1).2
  have := okOffs_len e2; have := hs.len; have := hss.len; omega
set_option maxRecDepth 100000 in
set_option maxHeartbeats 2000000 in
theorem Fastest_lim (s : Strm) (A O D C : Option Addr) (n c co nd cd nc cc : Nat) (bs : List Bnd) (l : List Wat) (ch : List Int) (w : World) (hss : SlAt w 0 5 Sec.cells A n c s.secs) (hs : SlAt w 0 2 Bnd.cells O n co bs) (hd : SlAt w 0 4 Wat.cells D nd cd l) (hcs : SlAt w 0 1 ivs C nc cc ch) (h1 : errBW s bs l = 0) (h3 : ¬ (1 ≤ l.length ∧ l.length ≤ 6 ∧ 1 ≤ ch.length ∧ ch.length ≤ 4)) :
    Calls Tryz.prog 22 #[.agg #[.int .i64 s.head, .slice A n c, .int .i64 s.lane.lo, .int .i64 s.lane.hi, .int .i64 s.bend], .slice O n co, .slice D nd cd, .slice C nc cc] w (RetFast (fastR s bs l ch) w) := by
  have hv : fastR s bs l ch = ([], 0, 3) := by unfold fastR; rw [if_neg (by simp [h1]), if_pos h3]
  rw [hv, ]
  clear hv
  have h2 := Lib.hid (errBW_zero h1).1
  replace h1 := Lib.hid h1
  have hld := hd.len
  have hlc := hcs.len
  rw [hld, hlc] at h3
  have hwL := fun W => within_any (nd : Int) 1 6 W
  have hwC := fun W => within_any (nc : Int) 1 4 W
  by_cases hnd : 1 ≤ nd ∧ nd ≤ 6
  · have hnc : ¬ (1 ≤ nc ∧ nc ≤ 4) := fun h => h3 ⟨hnd.1, hnd.2, h⟩
    simp only [decide_eq_true (show 1 ≤ (nd : Int) ∧ (nd : Int) ≤ 6 by omega)] at hwL
    simp only [decide_eq_false (show ¬ (1 ≤ (nc : Int) ∧ (nc : Int) ≤ 4) by omega)] at hwC
    clear hld hlc hnd hnc h3
    refine (callsIn_wide (n := 9)).1 ?_
    refine callsIn_of_wp_marks Tryz.func22 rfl trivial ?_ rfl
    simp only [Tryz.ntmps22, List.size_toArray, List.length_cons, List.length_nil, Nat.reduceAdd, Nat.reduceSub, Array.replicate_succ, Array.replicate_zero, List.push_toArray, List.append_toArray, List.nil_append, List.cons_append]
    refine wpIn_wide.2 ?_
    go_wp2_with fail
    refine (begun_any s A O D n c n co nd cd bs l _ (((((hss.alloc _).alloc _).alloc _).alloc _).alloc _) (((((hs.alloc _).alloc _).alloc _).alloc _).alloc _) (((((hd.alloc _).alloc _).alloc _).alloc _).alloc _)).mono ?_
    rintro e w1 ⟨r1, r2, hb1⟩
    have k6 : Blk w1 (w.heap.size + 1) 30 #[.slice D nd cd] := ((((Blk.newAt (by simp)).alloc _).alloc _).alloc _).below hb1
    have k7 : Blk w1 (w.heap.size + 1 + 1) 31 #[.slice C nc cc] := (((Blk.newAt (by simp)).alloc _).alloc _).below hb1
    have k8 : Blk w1 (w.heap.size + 1 + 1 + 1) 31 #[.slice none 0 0] := ((Blk.newAt (by simp)).alloc _).below hb1
    have k9 : Blk w1 (w.heap.size + 1 + 1 + 1 + 1) 3 #[.int .i64 0] := (Blk.newAt (by simp)).below hb1
    have b1 := ((((((Below.refl w.heap.size w).alloc (Nat.le_refl _) _).alloc (by simp) _).alloc (by simp; omega) _).alloc (by simp; omega) _).alloc (by simp; omega) _).trans (hb1.mono (by simp; omega))
    clear hb1
    rw [h1.out] at r1
    obtain rfl := r1 h2.out
    clear r1 r2
    replace k6 := k6.alloc (.cells #[.int .i64 s.head, .slice A n c, .int .i64 s.lane.lo, .int .i64 s.lane.hi, .int .i64 s.bend, .slice O n co] 104)
    replace k7 := k7.alloc (.cells #[.int .i64 s.head, .slice A n c, .int .i64 s.lane.lo, .int .i64 s.lane.hi, .int .i64 s.bend, .slice O n co] 104)
    replace k8 := k8.alloc (.cells #[.int .i64 s.head, .slice A n c, .int .i64 s.lane.lo, .int .i64 s.lane.hi, .int .i64 s.bend, .slice O n co] 104)
    replace k9 := k9.alloc (.cells #[.int .i64 s.head, .slice A n c, .int .i64 s.lane.lo, .int .i64 s.lane.hi, .int .i64 s.bend, .slice O n co] 104)
    have k11 := Blk.new w1 104 #[.int .i64 s.head, .slice A n c, .int .i64 s.lane.lo, .int .i64 s.lane.hi, .int .i64 s.bend, .slice O n co]
    replace b1 := b1.alloc b1.size (.cells #[.int .i64 s.head, .slice A n c, .int .i64 s.lane.lo, .int .i64 s.lane.hi, .int .i64 s.bend, .slice O n co] 104)
    obtain ⟨c6, f6, l6⟩ := k6.rules
    go_wp2_with fail
    refine (hwL _).mono ?_
    rintro e w' ⟨rfl, rfl⟩
    obtain ⟨c7, f7, l7⟩ := k7.rules
    go_wp2_with fail
    refine (hwC _).mono ?_
    rintro e w' ⟨rfl, rfl⟩
    have k8z := (k8.set_ 0 (.slice none 0 0)).far (p := ⟨w.heap.size + 1 + 1 + 1 + 1, 0, none⟩) (by dsimp only; omega) (.int .i64 0)
    have k9z := (k9.far (p := ⟨w.heap.size + 1 + 1 + 1, 0, none⟩) (by dsimp only; omega) (.slice none 0 0)).set_ 0 (.int .i64 0)
    have bz := (b1.setCell (p := ⟨w.heap.size + 1 + 1 + 1, 0, none⟩) (by dsimp only; omega) (.slice none 0 0)).setCell (p := ⟨w.heap.size + 1 + 1 + 1 + 1, 0, none⟩) (by dsimp only; omega) (.int .i64 0)
    obtain ⟨c8, f8, l8⟩ := k8.rules
    obtain ⟨c9, f9, l9⟩ := k9.rules
    go_wp2_with fail
    clear c8 f8 l8 c9 f9 l9
    obtain ⟨c8, f8, l8⟩ := k8z.rules
    obtain ⟨c9, f9, l9⟩ := k9z.rules
    exact ⟨.tuple #[.slice none 0 0, .int .i64 0, .int .i64 3], by simp [results, Tryz.results22, go_sem, c8, c9], none, 0, 0, rfl, SlAt.nil _ _ _ _, bz⟩
  · simp only [decide_eq_false (show ¬ (1 ≤ (nd : Int) ∧ (nd : Int) ≤ 6) by omega)] at hwL
    clear hld hlc hnd h3 hwC
    refine (callsIn_wide (n := 9)).1 ?_
    refine callsIn_of_wp_marks Tryz.func22 rfl trivial ?_ rfl
    simp only [Tryz.ntmps22, List.size_toArray, List.length_cons, List.length_nil, Nat.reduceAdd, Nat.reduceSub, Array.replicate_succ, Array.replicate_zero, List.push_toArray, List.append_toArray, List.nil_append, List.cons_append]
    refine wpIn_wide.2 ?_
    go_wp2_with fail
    refine (begun_any s A O D n c n co nd cd bs l _ (((((hss.alloc _).alloc _).alloc _).alloc _).alloc _) (((((hs.alloc _).alloc _).alloc _).alloc _).alloc _) (((((hd.alloc _).alloc _).alloc _).alloc _).alloc _)).mono ?_
    rintro e w1 ⟨r1, r2, hb1⟩
    have k6 : Blk w1 (w.heap.size + 1) 30 #[.slice D nd cd] := ((((Blk.newAt (by simp)).alloc _).alloc _).alloc _).below hb1
    have k7 : Blk w1 (w.heap.size + 1 + 1) 31 #[.slice C nc cc] := (((Blk.newAt (by simp)).alloc _).alloc _).below hb1
    have k8 : Blk w1 (w.heap.size + 1 + 1 + 1) 31 #[.slice none 0 0] := ((Blk.newAt (by simp)).alloc _).below hb1
    have k9 : Blk w1 (w.heap.size + 1 + 1 + 1 + 1) 3 #[.int .i64 0] := (Blk.newAt (by simp)).below hb1
    have b1 := ((((((Below.refl w.heap.size w).alloc (Nat.le_refl _) _).alloc (by simp) _).alloc (by simp; omega) _).alloc (by simp; omega) _).alloc (by simp; omega) _).trans (hb1.mono (by simp; omega))
    clear hb1
    rw [h1.out] at r1
    obtain rfl := r1 h2.out
    clear r1 r2
    replace k6 := k6.alloc (.cells #[.int .i64 s.head, .slice A n c, .int .i64 s.lane.lo, .int .i64 s.lane.hi, .int .i64 s.bend, .slice O n co] 104)
    replace k7 := k7.alloc (.cells #[.int .i64 s.head, .slice A n c, .int .i64 s.lane.lo, .int .i64 s.lane.hi, .int .i64 s.bend, .slice O n co] 104)
    replace k8 := k8.alloc (.cells #[.int .i64 s.head, .slice A n c, .int .i64 s.lane.lo, .int .i64 s.lane.hi, .int .i64 s.bend, .slice O n co] 104)
    replace k9 := k9.alloc (.cells #[.int .i64 s.head, .slice A n c, .int .i64 s.lane.lo, .int .i64 s.lane.hi, .int .i64 s.bend, .slice O n co] 104)
    have k11 := Blk.new w1 104 #[.int .i64 s.head, .slice A n c, .int .i64 s.lane.lo, .int .i64 s.lane.hi, .int .i64 s.bend, .slice O n co]
    replace b1 := b1.alloc b1.size (.cells #[.int .i64 s.head, .slice A n c, .int .i64 s.lane.lo, .int .i64 s.lane.hi, .int .i64 s.bend, .slice O n co] 104)
    obtain ⟨c6, f6, l6⟩ := k6.rules
    go_wp2_with fail
    refine (hwL _).mono ?_
    rintro e w' ⟨rfl, rfl⟩
    have k8z := (k8.set_ 0 (.slice none 0 0)).far (p := ⟨w.heap.size + 1 + 1 + 1 + 1, 0, none⟩) (by dsimp only; omega) (.int .i64 0)
    have k9z := (k9.far (p := ⟨w.heap.size + 1 + 1 + 1, 0, none⟩) (by dsimp only; omega) (.slice none 0 0)).set_ 0 (.int .i64 0)
    have bz := (b1.setCell (p := ⟨w.heap.size + 1 + 1 + 1, 0, none⟩) (by dsimp only; omega) (.slice none 0 0)).setCell (p := ⟨w.heap.size + 1 + 1 + 1 + 1, 0, none⟩) (by dsimp only; omega) (.int .i64 0)
    obtain ⟨c8, f8, l8⟩ := k8.rules
    obtain ⟨c9, f9, l9⟩ := k9.rules
    go_wp2_with fail
    clear c8 f8 l8 c9 f9 l9
    obtain ⟨c8, f8, l8⟩ := k8z.rules
    obtain ⟨c9, f9, l9⟩ := k9z.rules
    exact ⟨.tuple #[.slice none 0 0, .int .i64 0, .int .i64 3], by simp [results, Tryz.results22, go_sem, c8, c9], none, 0, 0, rfl, SlAt.nil _ _ _ _, bz⟩
set_option maxRecDepth 100000 in
set_option maxHeartbeats 2000000 in
theorem Fastest_spd (s : Strm) (A O D C : Option Addr) (n c co nd cd nc cc : Nat) (bs : List Bnd) (l : List Wat) (ch : List Int) (w : World) (hss : SlAt w 0 5 Sec.cells A n c s.secs) (hs : SlAt w 0 2 Bnd.cells O n co bs) (hd : SlAt w 0 4 Wat.cells D nd cd l) (hcs : SlAt w 0 1 ivs C nc cc ch) (h1 : errBW s bs l = 0) (h3 : 1 ≤ l.length ∧ l.length ≤ 6 ∧ 1 ≤ ch.length ∧ ch.length ≤ 4) (h4 : okSpeeds ch = false) :
    Calls Tryz.prog 22 #[.agg #[.int .i64 s.head, .slice A n c, .int .i64 s.lane.lo, .int .i64 s.lane.hi, .int .i64 s.bend], .slice O n co, .slice D nd cd, .slice C nc cc] w (RetFast (fastR s bs l ch) w) := by
  have hv : fastR s bs l ch = ([], 0, 34) := by unfold fastR; rw [if_neg (by simp [h1]), if_neg (by simpa using h3), if_pos h4]
  rw [hv]
  clear hv
  have h2 := Lib.hid (errBW_zero h1).1
  replace h1 := Lib.hid h1
  rw [hd.len, hcs.len] at h3
  have hwL := fun W => within_any (nd : Int) 1 6 W
  have hwC := fun W => within_any (nc : Int) 1 4 W
  simp only [decide_eq_true (show 1 ≤ (nd : Int) ∧ (nd : Int) ≤ 6 by omega)] at hwL
  simp only [decide_eq_true (show 1 ≤ (nc : Int) ∧ (nc : Int) ≤ 4 by omega)] at hwC
  have hsp := fun W (hW : Below w.heap.size w W) => speeds_any C nc cc 0 ch W (hcs.below hW)
  simp only [h4] at hsp
  clear h3 h4
  refine (callsIn_wide (n := 9)).1 ?_
  refine callsIn_of_wp_marks Tryz.func22 rfl trivial ?_ rfl
  simp only [Tryz.ntmps22, List.size_toArray, List.length_cons, List.length_nil, Nat.reduceAdd, Nat.reduceSub, Array.replicate_succ, Array.replicate_zero, List.push_toArray, List.append_toArray, List.nil_append, List.cons_append]
  refine wpIn_wide.2 ?_
  go_wp2_with fail
  refine (begun_any s A O D n c n co nd cd bs l _ (((((hss.alloc _).alloc _).alloc _).alloc _).alloc _) (((((hs.alloc _).alloc _).alloc _).alloc _).alloc _) (((((hd.alloc _).alloc _).alloc _).alloc _).alloc _)).mono ?_
  rintro e w1 ⟨r1, r2, hb1⟩
  have k6 : Blk w1 (w.heap.size + 1) 30 #[.slice D nd cd] := ((((Blk.newAt (by simp)).alloc _).alloc _).alloc _).below hb1
  have k7 : Blk w1 (w.heap.size + 1 + 1) 31 #[.slice C nc cc] := (((Blk.newAt (by simp)).alloc _).alloc _).below hb1
  have k8 : Blk w1 (w.heap.size + 1 + 1 + 1) 31 #[.slice none 0 0] := ((Blk.newAt (by simp)).alloc _).below hb1
  have k9 : Blk w1 (w.heap.size + 1 + 1 + 1 + 1) 3 #[.int .i64 0] := (Blk.newAt (by simp)).below hb1
  have b1 := ((((((Below.refl w.heap.size w).alloc (Nat.le_refl _) _).alloc (by simp) _).alloc (by simp; omega) _).alloc (by simp; omega) _).alloc (by simp; omega) _).trans (hb1.mono (by simp; omega))
  clear hb1
  rw [h1.out] at r1
  obtain rfl := r1 h2.out
  clear r1 r2
  replace k6 := k6.alloc (.cells #[.int .i64 s.head, .slice A n c, .int .i64 s.lane.lo, .int .i64 s.lane.hi, .int .i64 s.bend, .slice O n co] 104)
  replace k7 := k7.alloc (.cells #[.int .i64 s.head, .slice A n c, .int .i64 s.lane.lo, .int .i64 s.lane.hi, .int .i64 s.bend, .slice O n co] 104)
  replace k8 := k8.alloc (.cells #[.int .i64 s.head, .slice A n c, .int .i64 s.lane.lo, .int .i64 s.lane.hi, .int .i64 s.bend, .slice O n co] 104)
  replace k9 := k9.alloc (.cells #[.int .i64 s.head, .slice A n c, .int .i64 s.lane.lo, .int .i64 s.lane.hi, .int .i64 s.bend, .slice O n co] 104)
  have k11 := Blk.new w1 104 #[.int .i64 s.head, .slice A n c, .int .i64 s.lane.lo, .int .i64 s.lane.hi, .int .i64 s.bend, .slice O n co]
  replace b1 := b1.alloc b1.size (.cells #[.int .i64 s.head, .slice A n c, .int .i64 s.lane.lo, .int .i64 s.lane.hi, .int .i64 s.bend, .slice O n co] 104)
  obtain ⟨c6, f6, l6⟩ := k6.rules
  go_wp2_with fail
  refine (hwL _).mono ?_
  rintro e w' ⟨rfl, rfl⟩
  obtain ⟨c7, f7, l7⟩ := k7.rules
  go_wp2_with fail
  refine (hwC _).mono ?_
  rintro e w' ⟨rfl, rfl⟩
  go_wp2_with fail
  refine (hsp _ b1).mono ?_
  rintro e w2 ⟨rfl, hb2⟩
  clear c6 f6 l6 c7 f7 l7 hsp hwC hwL
  replace k6 := k6.below hb2
  replace k7 := k7.below hb2
  replace k8 := k8.below hb2
  replace k9 := k9.below hb2
  replace k11 := k11.below hb2
  replace b1 := b1.trans (hb2.mono b1.size)
  clear hb2
  have k8z := (k8.set_ 0 (.slice none 0 0)).far (p := ⟨w.heap.size + 1 + 1 + 1 + 1, 0, none⟩) (by dsimp only; omega) (.int .i64 0)
  have k9z := (k9.far (p := ⟨w.heap.size + 1 + 1 + 1, 0, none⟩) (by dsimp only; omega) (.slice none 0 0)).set_ 0 (.int .i64 0)
  have bz := (b1.setCell (p := ⟨w.heap.size + 1 + 1 + 1, 0, none⟩) (by dsimp only; omega) (.slice none 0 0)).setCell (p := ⟨w.heap.size + 1 + 1 + 1 + 1, 0, none⟩) (by dsimp only; omega) (.int .i64 0)
  obtain ⟨c8, f8, l8⟩ := k8.rules
  obtain ⟨c9, f9, l9⟩ := k9.rules
  go_wp2_with fail
  clear c8 f8 l8 c9 f9 l9
  obtain ⟨c8, f8, l8⟩ := k8z.rules
  obtain ⟨c9, f9, l9⟩ := k9z.rules
  exact ⟨.tuple #[.slice none 0 0, .int .i64 0, .int .i64 34], by simp [results, Tryz.results22, go_sem, c8, c9], none, 0, 0, rfl, SlAt.nil _ _ _ _, bz⟩
end Go.Proofs.YtjiaepphnddpoaaGreat
