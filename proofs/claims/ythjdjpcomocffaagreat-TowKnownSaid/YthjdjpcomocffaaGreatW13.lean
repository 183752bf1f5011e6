/-
  Walks, thirteenth part: Fastest, where plans are looked for.
-/
import Derived.Test.YthjdjpcomocffaaGreatW11
namespace Go.Proofs.YthjdjpcomocffaaGreat
open Go.RowKit Go.Shelf
attribute [local go_sem] Oper.semAt_some
theorem map_ivs (l : List Int) : l.map (Value.int .i64 ·) = l.flatMap ivs := by induction l with | nil => rfl | cons x l ih => simp [ivs, ih]
theorem sl_reset {w : World} {α : Type} {B s : Nat} {enc : α → List Value} {A : Option Addr} {n c : Nat} {xs : List α} (h : SlAt w B s enc A n c xs) {p : Addr} {u : Value} (hp : w.cell? p = some u) : SlAt (w.setCell p u) B s enc A n c xs := by
  refine h.keep (by simp [World.setCell]) fun q _ _ => ?_
  by_cases e : q = p
  · subst e
    rw [hp]
    exact World.cell?_setCell_same _ _ _ (by rw [hp])
  · exact World.cell?_setCell_other w p q u (fun h => e h.symm)
theorem runPlan_len (p : Nat → Int) (ch : List Int) (nd : Nat) : ∀ r plan way, (runPlan p ch nd r plan way).2.1.length ≤ plan.length + r
  | 0, plan, way => Nat.le_refl _
  | r + 1, plan, way => by
    rw [runPlan]
    split
    · simp
    · have := runPlan_len p ch nd r (plan ++ [p (nd - (r + 1))]) (way + ch.getD (p (nd - (r + 1))).toNat 0)
      simp at this ⊢
      omega
set_option maxRecDepth 100000 in
set_option maxHeartbeats 4000000 in
theorem Fastest_run (s : Strm) (A O D C : Option Addr) (n c co nd cd nc cc : Nat) (bs : List Bnd) (l : List Wat) (ch : List Int) (w : World) (hss : SlAt w 0 5 Sec.cells A n c s.secs) (hs : SlAt w 0 2 Bnd.cells O n co bs) (hd : SlAt w 0 4 Wat.cells D nd cd l) (hcs : SlAt w 0 1 ivs C nc cc ch) (h1 : errBW s bs l = 0) (h3 : 1 ≤ l.length ∧ l.length ≤ 6 ∧ 1 ≤ ch.length ∧ ch.length ≤ 4) (h4 : okSpeeds ch = true) :
    Calls Tryz.prog 12 #[.agg #[.int .i64 s.head, .slice A n c, .int .i64 s.lane.lo, .int .i64 s.lane.hi, .int .i64 s.bend], .slice O n co, .slice D nd cd, .slice C nc cc] w (RetFast (fastR s bs l ch) w) := by
  have hv : Hid (fastR s bs l ch = if (runPlan (fun i => pickTo (keptN s bs l ch i) ch ch.length) ch l.length l.length [] 0).1 = true then ((runPlan (fun i => pickTo (keptN s bs l ch i) ch ch.length) ch l.length l.length [] 0).2.1, (runPlan (fun i => pickTo (keptN s bs l ch i) ch ch.length) ch l.length l.length [] 0).2.2, 0) else ([], 0, 4)) := by
    show _ = _
    unfold fastR; rw [if_neg (by simp [h1]), if_neg (by simpa using h3), if_neg (by simp [h4])]
  have h2 := Lib.hid (errBW_zero h1).1
  have hok := Lib.hid (errB_zero (errBW_zero h1).1)
  have hlw := Lib.hid (show l.all okWat = true by have := (errBW_zero h1).2; unfold okWats at this; simp only [Bool.and_eq_true] at this; exact this.2)
  replace h1 := Lib.hid h1
  have hld := hd.len
  have hlc := hcs.len
  rw [hld, hlc] at h3
  have hwL := fun W => within_any (nd : Int) 1 6 W
  have hwC := fun W => within_any (nc : Int) 1 4 W
  simp only [decide_eq_true (show 1 ≤ (nd : Int) ∧ (nd : Int) ≤ 6 by omega)] at hwL
  simp only [decide_eq_true (show 1 ≤ (nc : Int) ∧ (nc : Int) ≤ 4 by omega)] at hwC
  have hsp := fun W (hW : Below w.heap.size w W) => speeds_any C nc cc 0 ch W (hcs.below hW)
  simp only [h4] at hsp
  replace h4 := Lib.hid h4
  replace h3 := Lib.hid h3
  replace hld := Lib.hid hld
  replace hlc := Lib.hid hlc
  have hmk : ∀ (t : TypeId) (w : World), (Instr.makeMap t none).run Tryz.prog w = .ok (.map (some w.heap.size)) (w.alloc (.map #[] 0)) := fun t w => run_makeMap t w
  refine (callsIn_wide (n := 9)).1 ?_
  refine callsIn_of_wp_marks Tryz.func12 rfl trivial ?_ rfl
  simp only [Tryz.ntmps12, List.size_toArray, List.length_cons, List.length_nil, Nat.reduceAdd, Nat.reduceSub, Array.replicate_succ, Array.replicate_zero, List.push_toArray, List.append_toArray, List.nil_append, List.cons_append]
  refine wpIn_wide.2 ?_
  go_wp2_with fail
  refine (begun_any s A O D n c n co nd cd bs l _ (((((hss.alloc _).alloc _).alloc _).alloc _).alloc _) (((((hs.alloc _).alloc _).alloc _).alloc _).alloc _) (((((hd.alloc _).alloc _).alloc _).alloc _).alloc _)).mono ?_
  rintro e w1 ⟨r1, r2, hb1⟩
  have k6 : Blk w1 (w.heap.size + 1) 47 #[.slice D nd cd] := ((((Blk.newAt (by simp)).alloc _).alloc _).alloc _).below hb1
  have k7 : Blk w1 (w.heap.size + 1 + 1) 33 #[.slice C nc cc] := (((Blk.newAt (by simp)).alloc _).alloc _).below hb1
  have k8 : Blk w1 (w.heap.size + 1 + 1 + 1) 33 #[.slice none 0 0] := ((Blk.newAt (by simp)).alloc _).below hb1
  have k9 : Blk w1 (w.heap.size + 1 + 1 + 1 + 1) 3 #[.int .i64 0] := (Blk.newAt (by simp)).below hb1
  have b1 := ((((((Below.refl w.heap.size w).alloc (Nat.le_refl _) _).alloc (by simp) _).alloc (by simp; omega) _).alloc (by simp; omega) _).alloc (by simp; omega) _).trans (hb1.mono (by simp; omega))
  clear hb1
  rw [h1.out] at r1
  obtain rfl := r1 h2.out
  clear r1 r2
  replace k6 := k6.alloc (.cells #[.int .i64 s.head, .slice A n c, .int .i64 s.lane.lo, .int .i64 s.lane.hi, .int .i64 s.bend, .slice O n co] 85)
  replace k7 := k7.alloc (.cells #[.int .i64 s.head, .slice A n c, .int .i64 s.lane.lo, .int .i64 s.lane.hi, .int .i64 s.bend, .slice O n co] 85)
  replace k8 := k8.alloc (.cells #[.int .i64 s.head, .slice A n c, .int .i64 s.lane.lo, .int .i64 s.lane.hi, .int .i64 s.bend, .slice O n co] 85)
  replace k9 := k9.alloc (.cells #[.int .i64 s.head, .slice A n c, .int .i64 s.lane.lo, .int .i64 s.lane.hi, .int .i64 s.bend, .slice O n co] 85)
  have k11 := Blk.new w1 85 #[.int .i64 s.head, .slice A n c, .int .i64 s.lane.lo, .int .i64 s.lane.hi, .int .i64 s.bend, .slice O n co]
  replace b1 := b1.alloc b1.size (.cells #[.int .i64 s.head, .slice A n c, .int .i64 s.lane.lo, .int .i64 s.lane.hi, .int .i64 s.bend, .slice O n co] 85)
  obtain ⟨c6, f6, l6⟩ := k6.rules
  go_wp2_with fail
  refine (hwL _).mono ?_
  rintro e w' ⟨rfl, rfl⟩
  obtain ⟨c7, f7, l7⟩ := k7.rules
  go_wp2_with fail
  refine (hwC _).mono ?_
  rintro e w' ⟨rfl, rfl⟩
  go_wp2_with fail
  refine (hsp _ b1).mono ?_
  rintro e w2 ⟨rfl, hb2⟩
  clear c6 f6 l6 c7 f7 l7 hsp hwC hwL
  replace k6 := k6.below hb2
  replace k7 := k7.below hb2
  replace k8 := k8.below hb2
  replace k9 := k9.below hb2
  replace k11 := k11.below hb2
  replace b1 := b1.trans (hb2.mono b1.size)
  clear hb2
  have hkm := kmap_made w2
  have l6 := k6.lt
  have l9 := k9.lt
  have l11 := k11.lt
  replace k6 := (k6.alloc (.map #[] 0)).alloc (.cells #[.map (some w2.heap.size)] 91)
  replace k7 := (k7.alloc (.map #[] 0)).alloc (.cells #[.map (some w2.heap.size)] 91)
  replace k8 := (k8.alloc (.map #[] 0)).alloc (.cells #[.map (some w2.heap.size)] 91)
  replace k9 := (k9.alloc (.map #[] 0)).alloc (.cells #[.map (some w2.heap.size)] 91)
  replace k11 := (k11.alloc (.map #[] 0)).alloc (.cells #[.map (some w2.heap.size)] 91)
  have k12 : Blk ((w2.alloc (.map #[] 0)).alloc (.cells #[.map (some w2.heap.size)] 91)) (w2.heap.size + 1) 91 #[.map (some w2.heap.size)] := Blk.newAt (by simp)
  replace hkm := hkm.block (w' := (w2.alloc (.map #[] 0)).alloc (.cells #[.map (some w2.heap.size)] 91)) (Below.heap_alloc _ _ _ (by simp))
  replace b1 := (b1.alloc b1.size (.map #[] 0)).alloc (by have := b1.size; simp; omega) (.cells #[.map (some w2.heap.size)] 91)
  obtain ⟨c6, f6, -⟩ := k6.rules
  obtain ⟨c11, f11, -⟩ := k11.rules
  go_wp2_with fail
  refine (steps_any s A O D n c co n nd cd _).mono ?_
  rintro e w4 ⟨rfl, rfl⟩
  clear c6 f6 c11 f11
  go_wp2_with fail
  obtain ⟨W0, hW0⟩ : ∃ W0, W0 = ((((w2.alloc (.map #[] 0)).alloc (.cells #[.map (some w2.heap.size)] 91)).alloc (.cells #[.int .i64 s.head, .slice A n c, .int .i64 s.lane.lo, .int .i64 s.lane.hi, .int .i64 s.bend, .slice O n co] 85)).alloc (.cells #[.slice D nd cd] 47)) := ⟨_, rfl⟩
  rw [← hW0]
  have hI0 : FastI s A O D C n c co nd cd nc cc w1.heap.size (w2.heap.size + 1) w2.heap.size w W0 := by
    rw [hW0]
    have ba := b1.alloc b1.size (.cells #[.int .i64 s.head, .slice A n c, .int .i64 s.lane.lo, .int .i64 s.lane.hi, .int .i64 s.bend, .slice O n co] 85)
    exact ⟨(k6.alloc _).alloc _, (k7.alloc _).alloc _, (k8.alloc _).alloc _, (k9.alloc _).alloc _, (k11.alloc _).alloc _, (k12.alloc _).alloc _, ba.alloc ba.size _⟩
  have kt : Blk W0 (w2.heap.size + 1 + 1) 85 #[.int .i64 s.head, .slice A n c, .int .i64 s.lane.lo, .int .i64 s.lane.hi, .int .i64 s.bend, .slice O n co] := by rw [hW0]; exact (Blk.newAt (by simp)).alloc _
  have kl : Blk W0 (w2.heap.size + 1 + 1 + 1) 47 #[.slice D nd cd] := by rw [hW0]; exact Blk.newAt (by simp)
  have hm0 : KMap W0 w2.heap.size 0 (fmap (keptN s bs l ch) nc 0 0) := by
    rw [hW0, fmap_zero]
    exact hkm.block ((Below.heap_alloc _ _ _ (by rw [World.size_alloc, World.size_alloc, World.size_alloc]; omega)).trans (Below.heap_alloc _ _ _ (by rw [World.size_alloc, World.size_alloc]; omega)))
  have hsz : W0.heap.size = w2.heap.size + 4 := by rw [hW0]; simp
  have hLs : StepsL s bs l A O D n c co nd cd (w2.heap.size + 1 + 1) (w2.heap.size + 1 + 1 + 1) W0 := StepsL.base hI0.2.2.2.2.2.2 hss hs hd kt kl
  have hbm : w.heap.size + 1 + 1 + 1 + 1 < w2.heap.size := l9
  have hgt : w1.heap.size < w2.heap.size := l11
  clear hW0 kt kl k6 k7 k8 k9 k11 k12 hkm b1
  refine (wpIn_wide (n := 9)).1 ?_
  refine wp_range rfl (by decide) (gf := 67) (lb := #[.pointer (some ⟨w2.heap.size + 1 + 1, 0, none⟩), .pointer (some ⟨w2.heap.size + 1 + 1 + 1, 0, none⟩)]) rfl trivial eg_steps1
    (steps1_iter _ s bs l A O D n c co nd cd _ _ hok.out.1 hok.out.2 hlw.out) (fun k vs W ⟨O', co', e, _⟩ => by rw [e]; rfl)
    (fun k W => FastI s A O D C n c co nd cd nc cc w1.heap.size (w2.heap.size + 1) w2.heap.size w W ∧ ∃ m, m ≤ 4 * k ∧ KMap W w2.heap.size m (fmap (keptN s bs l ch) nc k 0))
    (fun _ _ => False) (fun k A B h hc => ⟨h.1.calm hc (by omega), h.2.choose, h.2.choose_spec.1, h.2.choose_spec.2.block (hc.1.block _ (by omega))⟩) (fun _ _ _ h _ => h) (fun A B h hc => h.calm hc) ⟨hI0, 0, by omega, hm0⟩ hLs ?round ?done ?stop
  case stop => exact fun _ _ _ _ h _ => h.elim
  case done =>
    rintro Dd W hD ⟨hI, m, -, hm⟩ hK
    have hst : ∀ (a : Addr) (fn : Fn) (b c : Array Value) (m : Mode) (w : World), (store a (.func fn b c) m).run Tryz.prog w = stored Tryz.prog w a (.func fn b c) m := fun _ _ _ _ _ _ => run_store _ _ _ _ _ rfl
    obtain ⟨k6, k7, k8, k9, -, k12, hb⟩ := hI
    have hrc : runPlan (fun i => pickTo (fmap (keptN s bs l ch) nc nd 0 i) ch ch.length) ch nd nd [] 0 = runPlan (fun i => pickTo (keptN s bs l ch i) ch ch.length) ch nd nd [] 0 :=
      runPlan_congr ch nd (fun i hi => pickTo_congr ch _ (fun q hq => by rw [hlc.out] at hq; simp [fmap, hi, hq])) nd [] 0 (Nat.le_refl _)
    have hlen := runPlan_len (fun i => pickTo (keptN s bs l ch i) ch ch.length) ch nd nd [] 0
    rw [hld.out] at hv
    obtain ⟨⟨ok, plan, way⟩, hRP⟩ : ∃ x, runPlan (fun i => pickTo (keptN s bs l ch i) ch ch.length) ch nd nd [] 0 = x := ⟨_, rfl⟩
    rw [hRP] at hrc hlen hv
    have hch := choose_any w w.heap.size rfl ch (fmap (keptN s bs l ch) nc nd 0) D C nd cd nc cc w2.heap.size m (w.heap.size + 1) (w.heap.size + 1 + 1) (w2.heap.size + 1) (w.heap.size + 1 + 1 + 1) (w.heap.size + 1 + 1 + 1 + 1) W.heap.size
      (by have := hb.size; omega) (by omega) (by have := h3.out; omega) (by have := h3.out; omega) h4.out hcs (by omega) (by have := hb.size; have := k12.lt; omega) nd 0 (.slice none 0 0) [] 0 (W.alloc (.cells #[.func (.func 39) #[] #[.pointer (some ⟨w.heap.size + 1, 0, none⟩), .pointer (some ⟨w.heap.size + 1 + 1, 0, none⟩), .pointer (some ⟨w2.heap.size + 1, 0, none⟩), .pointer (some ⟨w.heap.size + 1 + 1 + 1, 0, none⟩), .pointer (some ⟨w.heap.size + 1 + 1 + 1 + 1, 0, none⟩), .pointer (some ⟨W.heap.size, 0, none⟩)]] 97)) (by omega) rfl (by omega) (by omega) (fun _ _ => by simp [Value.ownBlock])
      (k6.alloc _) (k7.alloc _) (k12.alloc _) (k8.alloc _) (k9.alloc _) (Blk.new W _ _) (hb.alloc hb.size _) (hm.block (Below.heap_alloc _ _ _ hm.lt)) ⟨rfl, .inl ⟨rfl, rfl⟩⟩
    rw [hrc] at hch
    have hKa : (W.alloc (.cells #[.func (.func 39) #[] #[.pointer (some ⟨w.heap.size + 1, 0, none⟩), .pointer (some ⟨w.heap.size + 1 + 1, 0, none⟩), .pointer (some ⟨w2.heap.size + 1, 0, none⟩), .pointer (some ⟨w.heap.size + 1 + 1 + 1, 0, none⟩), .pointer (some ⟨w.heap.size + 1 + 1 + 1 + 1, 0, none⟩), .pointer (some ⟨W.heap.size, 0, none⟩)]] 97)).heap[Dd]? = some (.deferred (some [])) := (Below.heap_alloc _ _ _ (Array.getElem?_eq_some_iff.1 hK).1).trans hK
    have lDd := (Array.getElem?_eq_some_iff.1 hKa).1
    replace hch := Lib.hid hch
    replace hRP := Lib.hid hRP
    replace hrc := Lib.hid hrc
    replace hv := Lib.hid hv
    replace hlen := Lib.hid hlen
    have hbA := hb.alloc hb.size (.cells #[.func (.func 39) #[] #[.pointer (some ⟨w.heap.size + 1, 0, none⟩), .pointer (some ⟨w.heap.size + 1 + 1, 0, none⟩), .pointer (some ⟨w2.heap.size + 1, 0, none⟩), .pointer (some ⟨w.heap.size + 1 + 1 + 1, 0, none⟩), .pointer (some ⟨w.heap.size + 1 + 1 + 1 + 1, 0, none⟩), .pointer (some ⟨W.heap.size, 0, none⟩)]] 97)
    clear k6 k7 k12 hm hb
    go_wp2_with fail
    refine hch.out.mono ?_
    rintro e w6 ⟨v', rfl, hb6, k8', ⟨n', hown'⟩, k9', hkp⟩
    clear hch
    replace hb6 := hbA.trans hb6
    have hK6 : w6.heap[Dd]? = some (.deferred (some [])) := (hkp Dd lDd (by omega) (by omega) (by simp [Value.ownBlock])).trans hKa
    clear hkp hKa hK k8 k9
    cases ok with
    | false =>
      have k8z := (k8'.set_ 0 (.slice none 0 0)).far (p := ⟨w.heap.size + 1 + 1 + 1 + 1, 0, none⟩) (by dsimp only; omega) (.int .i64 0)
      have k9z := (k9'.far (p := ⟨w.heap.size + 1 + 1 + 1, 0, none⟩) (by dsimp only; omega) (.slice none 0 0)).set_ 0 (.int .i64 0)
      have bz := (hb6.setCell (p := ⟨w.heap.size + 1 + 1 + 1, 0, none⟩) (by dsimp only; omega) (.slice none 0 0)).setCell (p := ⟨w.heap.size + 1 + 1 + 1 + 1, 0, none⟩) (by dsimp only; omega) (.int .i64 0)
      have hKz : ((w6.setCell ⟨w.heap.size + 1 + 1 + 1, 0, none⟩ (.slice none 0 0)).setCell ⟨w.heap.size + 1 + 1 + 1 + 1, 0, none⟩ (.int .i64 0)).heap[Dd]? = some (.deferred (some [])) := (Below.heap_setCell _ _ _ _ (by dsimp only; omega)).trans ((Below.heap_setCell _ _ _ _ (by dsimp only; omega)).trans hK6)
      obtain ⟨c8, f8, l8⟩ := k8'.rules
      obtain ⟨c9, f9, l9⟩ := k9'.rules
      go_wp2_with fail
      clear c8 f8 l8 c9 f9 l9
      refine ⟨by simp, .inl ⟨_, _, rfl, run_takeDeferred hKz, ?_⟩⟩
      have hcp := calm_put (B := w.heap.size) (.deferred none) hKz rfl (by omega)
      obtain ⟨c8, f8, l8⟩ := (calm_blk hcp k8z).rules
      obtain ⟨c9, f9, l9⟩ := (calm_blk hcp k9z).rules
      rw [hv.out]
      exact ⟨.tuple #[.slice none 0 0, .int .i64 0, .int .i64 4], by simp [results, Tryz.results12, go_sem, c8, c9], none, 0, 0, rfl, SlAt.nil _ _ _ _, calm_below hcp bz (Nat.le_refl _)⟩
    | true =>
      have hn' : plan.length = n' := by have := hown'.1; simpa using this
      obtain ⟨P, pc, rfl, hsl⟩ := SlAt.of_own (enc := ivs) hown' (by have a1 := hlen.out; have a2 := h3.out; have a3 : ([] : List Int).length = 0 := rfl; omega) plan (map_ivs plan) (fun _ => rfl) hn'
      clear hown'
      go_wp2_with fail
      refine wp_held_np (fun w' : World => (∀ j, w'.cell? ⟨w.heap.size + 1 + 1 + 1, j, none⟩ = #[Value.slice P n' pc][j]?) ∧ (∀ j, w'.cell? ⟨w.heap.size + 1 + 1 + 1 + 1, j, none⟩ = #[Value.int .i64 way][j]?)) (by kernel_rfl) ?_
      have hS : (fun w' : World => (∀ j, w'.cell? ⟨w.heap.size + 1 + 1 + 1, j, none⟩ = #[Value.slice P n' pc][j]?) ∧ (∀ j, w'.cell? ⟨w.heap.size + 1 + 1 + 1 + 1, j, none⟩ = #[Value.int .i64 way][j]?)) w6.drew := ⟨k8'.cell, k9'.cell⟩
      replace k8' := k8'.drew
      replace k9' := k9'.drew
      replace hb6 := hb6.drew
      replace hsl := hsl.drew
      replace hK6 : w6.drew.heap[Dd]? = some (.deferred (some [])) := hK6
      generalize w6.drew = w7 at *
      refine held_take (i := 0) (v := ?_) 84 rfl rfl (by kernel_rfl) (by kernel_rfl) (by kernel_rfl) (fun _ _ _ h => h) (Or.inl ⟨by rfl, ?_⟩) hS ?_
      rotate_left 1
      · intro w' hSw
        try dsimp only at hSw
        obtain ⟨q1, q2⟩ := hSw
        go_simp
        all_goals with_reducible rfl
      try simp only [Act.put, List.setIfInBounds_toArray, List.set_cons_zero, List.set_cons_succ]
      refine held_take (i := 1) (v := ?_) 85 rfl rfl (by kernel_rfl) (by kernel_rfl) (by kernel_rfl) (fun _ _ _ h => h) (Or.inl ⟨by rfl, ?_⟩) hS ?_
      rotate_left 1
      · intro w' hSw
        try dsimp only at hSw
        obtain ⟨q1, q2⟩ := hSw
        go_simp
        all_goals with_reducible rfl
      try simp only [Act.put, List.setIfInBounds_toArray, List.set_cons_zero, List.set_cons_succ]
      have k8z := k8'.set_ 0 (.slice P n' pc)
      have k9z := k9'.far (p := ⟨w.heap.size + 1 + 1 + 1, 0, none⟩) (by dsimp only; omega) (.slice P n' pc)
      have bz := hb6.setCell (p := ⟨w.heap.size + 1 + 1 + 1, 0, none⟩) (by dsimp only; omega) (.slice P n' pc)
      have hKz : (w7.setCell ⟨w.heap.size + 1 + 1 + 1, 0, none⟩ (.slice P n' pc)).heap[Dd]? = some (.deferred (some [])) := (Below.heap_setCell _ _ _ _ (by dsimp only; omega)).trans hK6
      obtain ⟨c8, f8, l8⟩ := k8'.rules
      refine held_one (i := 2) (by kernel_rfl) rfl rfl (fun K hK => ?_)
      go_simp
      refine hK _ _ ⟨k8z.cell, k9z.cell⟩ ?_
      clear hK K c8 f8 l8 hS
      have hslz := sl_reset hsl (p := ⟨w.heap.size + 1 + 1 + 1, 0, none⟩) (u := .slice P n' pc) (k8'.cell 0)
      clear k8' k9' hb6 hK6 hsl
      generalize w7.setCell ⟨w.heap.size + 1 + 1 + 1, 0, none⟩ (.slice P n' pc) = w8 at *
      try simp only [Act.put, List.setIfInBounds_toArray, List.set_cons_zero, List.set_cons_succ]
      have k8y := k8z.far (p := ⟨w.heap.size + 1 + 1 + 1 + 1, 0, none⟩) (by dsimp only; omega) (.int .i64 way)
      have k9y := k9z.set_ 0 (.int .i64 way)
      have by_ := bz.setCell (p := ⟨w.heap.size + 1 + 1 + 1 + 1, 0, none⟩) (by dsimp only; omega) (.int .i64 way)
      have hKy : (w8.setCell ⟨w.heap.size + 1 + 1 + 1 + 1, 0, none⟩ (.int .i64 way)).heap[Dd]? = some (.deferred (some [])) := (Below.heap_setCell _ _ _ _ (by dsimp only; omega)).trans hKz
      have hsly := sl_reset hslz (p := ⟨w.heap.size + 1 + 1 + 1 + 1, 0, none⟩) (u := .int .i64 way) (k9z.cell 0)
      obtain ⟨c9, f9, l9⟩ := k9z.rules
      refine held_one (i := 3) (by kernel_rfl) rfl rfl (fun K hK => ?_)
      go_simp
      refine hK _ _ ⟨k8y.cell, k9y.cell⟩ ?_
      clear hK K c9 f9 l9 k8z k9z bz hKz hslz
      generalize w8.setCell ⟨w.heap.size + 1 + 1 + 1 + 1, 0, none⟩ (.int .i64 way) = w9 at *
      have hS : (fun w' : World => (∀ j, w'.cell? ⟨w.heap.size + 1 + 1 + 1, j, none⟩ = #[Value.slice P n' pc][j]?) ∧ (∀ j, w'.cell? ⟨w.heap.size + 1 + 1 + 1 + 1, j, none⟩ = #[Value.int .i64 way][j]?)) w9 := ⟨k8y.cell, k9y.cell⟩
      try simp only [Act.put, List.setIfInBounds_toArray, List.set_cons_zero, List.set_cons_succ]
      refine held_take (i := 4) (v := ?_) 10 rfl rfl (by kernel_rfl) (by kernel_rfl) (by kernel_rfl) (fun _ _ _ h => h) (Or.inl ⟨by rfl, ?_⟩) hS ?_
      rotate_left 1
      · intro w' hSw
        try dsimp only at hSw
        obtain ⟨q1, q2⟩ := hSw
        go_simp
        all_goals with_reducible rfl
      try simp only [Act.put, List.setIfInBounds_toArray, List.set_cons_zero, List.set_cons_succ]
      refine wpAnyH_done (by kernel_rfl) (noPanic_normal ?_) _
      go_wp2_with fail
      refine ⟨by simp, .inl ⟨_, _, rfl, run_takeDeferred hKy, ?_⟩⟩
      have hcp := calm_put (B := w.heap.size) (.deferred none) hKy rfl (by omega)
      obtain ⟨c8, f8, l8⟩ := (calm_blk hcp k8y).rules
      obtain ⟨c9, f9, l9⟩ := (calm_blk hcp k9y).rules
      rw [hv.out]
      exact ⟨.tuple #[.slice P n' pc, .int .i64 way, .int .i64 0], by simp [results, Tryz.results12, go_sem, c8, c9], P, n', pc, rfl, calm_sl hcp hsly, calm_below hcp by_ (Nat.le_refl _)⟩
  case round =>
    rintro lr k vs W hW hk ⟨hI, m, hmk4, hm⟩ hL ⟨O', co', rfl, hG⟩
    gi_wp2_with fail
    refine ⟨Below.refl _ _, fun W2 hc => ?_⟩
    replace hI := hI.calm hc (by omega)
    replace hL := hL.calm hc
    replace hG := calm_sl hc hG
    replace hm := hm.block (hc.1.block _ (by omega))
    clear hc hI0 hLs hm0
    have hbn : Hid (bentN s bs l k = bentS s (encAt s bs l (k + 1))) := rfl
    have hek := Lib.hid (encAt_ok hok.out.1 hok.out.2 hlw.out (k + 1))
    obtain ⟨wt, hwt⟩ := some_of_lt hld.out hk
    have hwtd := wat_getD hwt
    have hwk := Lib.hid (hwtd ▸ (okWat_get hlw.out k).2)
    have hcl := Lib.hid hcs.len
    have hc7 := hI.2.1
    have hn4 := h3.out
    obtain ⟨c7, f7, l7⟩ := hc7.rules
    have hn0 := NC.refl W0.heap.size W2
    gi_wp2_with fail
    clear c7 f7 l7 hc7
    gi_loopw [52] (fun j wr => ∃ q : Nat, j = .int .i64 q ∧ q ≤ nc ∧ FastI s A O D C n c co nd cd nc cc w1.heap.size (w2.heap.size + 1) w2.heap.size w wr ∧ (∃ m, m ≤ 4 * k + q ∧ KMap wr w2.heap.size m (fmap (keptN s bs l ch) nc k q)) ∧ StepsL s bs l A O D n c co nd cd (w2.heap.size + 1 + 1) (w2.heap.size + 1 + 1 + 1) wr ∧ SlAt wr (w2.heap.size + 1 + 1 + 1 + 1) 2 Bnd.cells O' n co' (encAt s bs l (k + 1)) ∧ NC W0.heap.size W2 wr) (fun j wr => nc - (intOf j).toNat)
    case atStart => exact ⟨0, rfl, Nat.zero_le _, hI, ⟨m, by omega, hm⟩, hL, hG, hn0⟩
    case round =>
      clear hI hm hmk4 m hL hG hn0
      obtain ⟨q, rfl, hq, hI, ⟨m, hmk4, hm⟩, hL, hG, hn⟩ := hrel
      by_cases hlt : q < nc
      · obtain ⟨x, hx⟩ := some_of_lt hcl.out hlt
        have hxd : ch.getD q 0 = x := by rw [List.getD_eq_getElem?_getD, hx]; rfl
        obtain ⟨bc, oc, hC, -, hbcl, e0⟩ := hcs.int hx
        replace e0 := (hI.2.2.2.2.2.2.cell (by dsimp only; omega)).trans e0
        obtain ⟨bd, od, hD, -, lbd, -, -, e2, e3⟩ := hd.wat hwt
        have hxk := Lib.hid (List.all_eq_true.1 h4.out x (List.mem_of_getElem? hx))
        have hkn : Hid (keptN s bs l ch k q = (!bentN s bs l k && !pulledS s (encAt s bs l (k + 1)) x wt.alo)) := by show keptN s bs l ch k q = _; unfold keptN; rw [hxd, hwtd]
        have hstep := Lib.hid (fmap_step (keptN s bs l ch) nc k q)
        replace hx := Lib.hid hx
        clear hxd
        have hq0 : (0 : Int) ≤ (q : Int) := by omega
        have hq1 : (q : Int) < (nc : Int) := by omega
        have hk0 : (0 : Int) ≤ (k : Int) := by omega
        have hk1 : (k : Int) < (nd : Int) := by omega
        subst hC
        subst hD
        obtain ⟨k6, k7, k8, k9, k11, k12, hb⟩ := hI
        gi_wp2_with fail
        refine wpIn_held_round (fun w' : World => (∀ j, w'.cell? ⟨w2.heap.size + 1, j, none⟩ = #[Value.map (some w2.heap.size)][j]?) ∧ (∀ j, w'.cell? ⟨w1.heap.size, j, none⟩ = #[Value.int .i64 s.head, .slice A n c, .int .i64 s.lane.lo, .int .i64 s.lane.hi, .int .i64 s.bend, .slice O n co][j]?) ∧ (∀ j, w'.cell? ⟨w.heap.size + 1, j, none⟩ = #[Value.slice (some ⟨bd, od, none⟩) nd cd][j]?) ∧ w'.cell? ⟨bd, od + k * 4 + 2, none⟩ = some (.int .i64 wt.alo.lo) ∧ w'.cell? ⟨bd, od + k * 4 + 3, none⟩ = some (.int .i64 wt.alo.hi)) (by kernel_rfl) (by kernel_rfl) (by rintro ⟨_, _, h⟩; exact h) ?_
        have hS : (fun w' : World => (∀ j, w'.cell? ⟨w2.heap.size + 1, j, none⟩ = #[Value.map (some w2.heap.size)][j]?) ∧ (∀ j, w'.cell? ⟨w1.heap.size, j, none⟩ = #[Value.int .i64 s.head, .slice A n c, .int .i64 s.lane.lo, .int .i64 s.lane.hi, .int .i64 s.bend, .slice O n co][j]?) ∧ (∀ j, w'.cell? ⟨w.heap.size + 1, j, none⟩ = #[Value.slice (some ⟨bd, od, none⟩) nd cd][j]?) ∧ w'.cell? ⟨bd, od + k * 4 + 2, none⟩ = some (.int .i64 wt.alo.lo) ∧ w'.cell? ⟨bd, od + k * 4 + 3, none⟩ = some (.int .i64 wt.alo.hi)) wr.drew := ⟨k12.cell, k11.cell, k6.cell, (hb.cell (p := ⟨bd, od + k * 4 + 2, none⟩) lbd).trans e2, (hb.cell (p := ⟨bd, od + k * 4 + 3, none⟩) lbd).trans e3⟩
        replace hI : FastI s A O (some ⟨bd, od, none⟩) (some ⟨bc, oc, none⟩) n c co nd cd nc cc w1.heap.size (w2.heap.size + 1) w2.heap.size w wr.drew := ⟨k6, k7, k8, k9, k11, k12, hb.drew⟩
        clear k6 k7 k8 k9 k11 k12 hb
        replace hL : StepsL s bs l A O (some ⟨bd, od, none⟩) n c co nd cd (w2.heap.size + 1 + 1) (w2.heap.size + 1 + 1 + 1) wr.drew := hL
        replace hG := hG.drew
        replace hm : KMap wr.drew _ _ _ := hm
        replace hn := hn.trans (nc_drew wr)
        generalize wr.drew = W5 at *
        refine held_take (i := 0) (v := ?_) 57 rfl rfl (by kernel_rfl) (by kernel_rfl) (by kernel_rfl) (fun _ _ _ h => h) (Or.inl ⟨by rfl, ?_⟩) hS ?_
        rotate_left 1
        · intro w' hSw
          try dsimp only at hSw
          obtain ⟨q1, q2, q3, q4, q5⟩ := hSw
          go_simp
          all_goals with_reducible rfl
        try simp only [Act.put, List.setIfInBounds_toArray, List.set_cons_zero, List.set_cons_succ]
        refine held_take (i := 1) (v := ?_) 58 rfl rfl (by kernel_rfl) (by kernel_rfl) (by kernel_rfl) (fun _ _ _ h => h) (Or.inl ⟨by rfl, ?_⟩) hS ?_
        rotate_left 1
        · intro w' hSw
          try dsimp only at hSw
          obtain ⟨q1, q2, q3, q4, q5⟩ := hSw
          go_simp
          all_goals with_reducible rfl
        try simp only [Act.put, List.setIfInBounds_toArray, List.set_cons_zero, List.set_cons_succ]
        refine held_take (i := 2) (v := ?_) 59 rfl rfl (by kernel_rfl) (by kernel_rfl) (by kernel_rfl) (fun _ _ _ h => h) (Or.inl ⟨by rfl, ?_⟩) hS ?_
        rotate_left 1
        · intro w' hSw
          try dsimp only at hSw
          obtain ⟨q1, q2, q3, q4, q5⟩ := hSw
          go_simp
          all_goals with_reducible rfl
        try simp only [Act.put, List.setIfInBounds_toArray, List.set_cons_zero, List.set_cons_succ]
        refine held_take (i := 3) (v := ?_) 60 rfl rfl (by kernel_rfl) (by kernel_rfl) (by kernel_rfl) (fun _ _ _ h => h) (Or.inl ⟨by rfl, ?_⟩) hS ?_
        rotate_left 1
        · intro w' hSw
          try dsimp only at hSw
          obtain ⟨q1, q2, q3, q4, q5⟩ := hSw
          go_simp
          all_goals with_reducible rfl
        try simp only [Act.put, List.setIfInBounds_toArray, List.set_cons_zero, List.set_cons_succ]
        refine held_take (i := 4) (v := ?_) 61 rfl rfl (by kernel_rfl) (by kernel_rfl) (by kernel_rfl) (fun _ _ _ h => h) (Or.inl ⟨by rfl, ?_⟩) hS ?_
        rotate_left 1
        · intro w' hSw
          try dsimp only at hSw
          obtain ⟨q1, q2, q3, q4, q5⟩ := hSw
          go_simp
          all_goals with_reducible rfl
        try simp only [Act.put, List.setIfInBounds_toArray, List.set_cons_zero, List.set_cons_succ]
        refine held_take (i := 5) (v := ?_) 62 rfl rfl (by kernel_rfl) (by kernel_rfl) (by kernel_rfl) (fun _ _ _ h => h) (Or.inl ⟨by rfl, ?_⟩) hS ?_
        rotate_left 1
        · intro w' hSw
          try dsimp only at hSw
          obtain ⟨q1, q2, q3, q4, q5⟩ := hSw
          go_simp
          all_goals with_reducible rfl
        try simp only [Act.put, List.setIfInBounds_toArray, List.set_cons_zero, List.set_cons_succ]
        refine held_take (i := 6) (v := ?_) 63 rfl rfl (by kernel_rfl) (by kernel_rfl) (by kernel_rfl) (fun _ _ _ h => h) (Or.inl ⟨by rfl, ?_⟩) hS ?_
        rotate_left 1
        · intro w' hSw
          try dsimp only at hSw
          obtain ⟨q1, q2, q3, q4, q5⟩ := hSw
          go_simp
          all_goals with_reducible rfl
        try simp only [Act.put, List.setIfInBounds_toArray, List.set_cons_zero, List.set_cons_succ]
        have hcb := bent_any s A O' n c n co' _ (encAt s bs l (k + 1)) W5 (ok_head hok.out.1) (okOffs_all hek.out) hG
        obtain ⟨bb, hbb⟩ : ∃ bb, bentS s (encAt s bs l (k + 1)) = bb := ⟨_, rfl⟩
        rw [hbb] at hcb
        replace hbb := hbb
        refine held_one (i := 7) (by kernel_rfl) rfl rfl (fun K hK => ?_)
        go_simp
        refine hcb.mono ?_
        rintro e w5 ⟨rfl, hb5⟩
        clear hcb hS
        replace hI := hI.below hb5
        replace hL := hL.below hb5
        replace hG := hG.below hb5
        replace hm := hm.below hb5
        replace hn := hn.trans (nc_of_below hb5)
        clear hb5
        have hS : (fun w' : World => (∀ j, w'.cell? ⟨w2.heap.size + 1, j, none⟩ = #[Value.map (some w2.heap.size)][j]?) ∧ (∀ j, w'.cell? ⟨w1.heap.size, j, none⟩ = #[Value.int .i64 s.head, .slice A n c, .int .i64 s.lane.lo, .int .i64 s.lane.hi, .int .i64 s.bend, .slice O n co][j]?) ∧ (∀ j, w'.cell? ⟨w.heap.size + 1, j, none⟩ = #[Value.slice (some ⟨bd, od, none⟩) nd cd][j]?) ∧ w'.cell? ⟨bd, od + k * 4 + 2, none⟩ = some (.int .i64 wt.alo.lo) ∧ w'.cell? ⟨bd, od + k * 4 + 3, none⟩ = some (.int .i64 wt.alo.hi)) w5 := ⟨hI.2.2.2.2.2.1.cell, hI.2.2.2.2.1.cell, hI.1.cell, (hI.2.2.2.2.2.2.cell (p := ⟨bd, od + k * 4 + 2, none⟩) lbd).trans e2, (hI.2.2.2.2.2.2.cell (p := ⟨bd, od + k * 4 + 3, none⟩) lbd).trans e3⟩
        refine hK _ _ hS ?_
        clear hK K
        try simp only [Act.put, List.setIfInBounds_toArray, List.set_cons_zero, List.set_cons_succ]
        cases bb with
        | true =>
          refine held_take (i := 8) (v := ?_) 65 rfl rfl (by kernel_rfl) (by kernel_rfl) (by kernel_rfl) (fun _ _ _ h => h) (Or.inl ⟨by rfl, ?_⟩) hS ?_
          rotate_left 1
          · intro w' hSw
            try dsimp only at hSw
            obtain ⟨q1, q2, q3, q4, q5⟩ := hSw
            go_simp
            all_goals with_reducible rfl
          try simp only [Act.put, List.setIfInBounds_toArray, List.set_cons_zero, List.set_cons_succ]
          refine held_take (i := 9) (v := ?_) 66 rfl rfl (by kernel_rfl) (by kernel_rfl) (by kernel_rfl) (fun _ _ _ h => h) (Or.inl ⟨by rfl, ?_⟩) hS ?_
          rotate_left 1
          · intro w' hSw
            try dsimp only at hSw
            obtain ⟨q1, q2, q3, q4, q5⟩ := hSw
            go_simp
            all_goals with_reducible rfl
          try simp only [Act.put, List.setIfInBounds_toArray, List.set_cons_zero, List.set_cons_succ]
          refine held_take (i := 10) (v := undef) 67 rfl rfl (by kernel_rfl) (by kernel_rfl) (by kernel_rfl) (fun _ _ _ h => h) (Or.inr ⟨by rfl, rfl⟩) hS ?_
          try simp only [Act.put, List.setIfInBounds_toArray, List.set_cons_zero, List.set_cons_succ]
          refine held_take (i := 11) (v := undef) 68 rfl rfl (by kernel_rfl) (by kernel_rfl) (by kernel_rfl) (fun _ _ _ h => h) (Or.inr ⟨by rfl, rfl⟩) hS ?_
          try simp only [Act.put, List.setIfInBounds_toArray, List.set_cons_zero, List.set_cons_succ]
          refine held_take (i := 12) (v := undef) 69 rfl rfl (by kernel_rfl) (by kernel_rfl) (by kernel_rfl) (fun _ _ _ h => h) (Or.inr ⟨by rfl, rfl⟩) hS ?_
          try simp only [Act.put, List.setIfInBounds_toArray, List.set_cons_zero, List.set_cons_succ]
          refine held_take (i := 13) (v := undef) 70 rfl rfl (by kernel_rfl) (by kernel_rfl) (by kernel_rfl) (fun _ _ _ h => h) (Or.inr ⟨by rfl, rfl⟩) hS ?_
          try simp only [Act.put, List.setIfInBounds_toArray, List.set_cons_zero, List.set_cons_succ]
          refine held_take (i := 14) (v := undef) 71 rfl rfl (by kernel_rfl) (by kernel_rfl) (by kernel_rfl) (fun _ _ _ h => h) (Or.inr ⟨by rfl, rfl⟩) hS ?_
          try simp only [Act.put, List.setIfInBounds_toArray, List.set_cons_zero, List.set_cons_succ]
          refine held_take (i := 15) (v := undef) 72 rfl rfl (by kernel_rfl) (by kernel_rfl) (by kernel_rfl) (fun _ _ _ h => h) (Or.inr ⟨by rfl, rfl⟩) hS ?_
          try simp only [Act.put, List.setIfInBounds_toArray, List.set_cons_zero, List.set_cons_succ]
          refine held_take (i := 16) (v := undef) 73 rfl rfl (by kernel_rfl) (by kernel_rfl) (by kernel_rfl) (fun _ _ _ h => h) (Or.inr ⟨by rfl, rfl⟩) hS ?_
          try simp only [Act.put, List.setIfInBounds_toArray, List.set_cons_zero, List.set_cons_succ]
          refine held_take (i := 17) (v := undef) 74 rfl rfl (by kernel_rfl) (by kernel_rfl) (by kernel_rfl) (fun _ _ _ h => h) (Or.inr ⟨by rfl, rfl⟩) hS ?_
          try simp only [Act.put, List.setIfInBounds_toArray, List.set_cons_zero, List.set_cons_succ]
          refine held_take (i := 18) (v := undef) 75 rfl rfl (by kernel_rfl) (by kernel_rfl) (by kernel_rfl) (fun _ _ _ h => h) (Or.inr ⟨by rfl, rfl⟩) hS ?_
          try simp only [Act.put, List.setIfInBounds_toArray, List.set_cons_zero, List.set_cons_succ]
          refine held_take (i := 19) (v := undef) 76 rfl rfl (by kernel_rfl) (by kernel_rfl) (by kernel_rfl) (fun _ _ _ h => h) (Or.inr ⟨by rfl, rfl⟩) hS ?_
          try simp only [Act.put, List.setIfInBounds_toArray, List.set_cons_zero, List.set_cons_succ]
          refine held_take (i := 20) (v := undef) 77 rfl rfl (by kernel_rfl) (by kernel_rfl) (by kernel_rfl) (fun _ _ _ h => h) (Or.inr ⟨by rfl, rfl⟩) hS ?_
          try simp only [Act.put, List.setIfInBounds_toArray, List.set_cons_zero, List.set_cons_succ]
          refine held_take (i := 21) (v := ?_) 78 rfl rfl (by kernel_rfl) (by kernel_rfl) (by kernel_rfl) (fun _ _ _ h => h) (Or.inl ⟨by rfl, ?_⟩) hS ?_
          rotate_left 1
          · intro w' hSw
            try dsimp only at hSw
            obtain ⟨q1, q2, q3, q4, q5⟩ := hSw
            go_simp
            all_goals with_reducible rfl
          try simp only [Act.put, List.setIfInBounds_toArray, List.set_cons_zero, List.set_cons_succ]
          obtain ⟨w9, hrun, hm9, hg9⟩ := hm.upd (i := k) (k := q) false (by omega) (by omega) (by unfold maxLen; omega)
          have hI9 := hI.grown hg9 hbm (by omega) (by omega)
          have hL9 : StepsL s bs l A O (some ⟨bd, od, none⟩) n c co nd cd (w2.heap.size + 1 + 1) (w2.heap.size + 1 + 1 + 1) w9 := StepsL.base hI9.2.2.2.2.2.2 hss hs hd (hL.1.grown hg9 (by simp; omega)) (hL.2.1.grown hg9 (by simp; omega))
          have hG9 : SlAt w9 (w2.heap.size + 1 + 1 + 1 + 1) 2 Bnd.cells O' n co' (encAt s bs l (k + 1)) := hG.keep hg9.size (fun p hp hlt2 => World.cell?_of_block (hg9.block p.block hlt2 (by simp; omega)))
          have hn9 := hn.trans (nc_grown hg9 (by omega))
          refine held_one (i := 22) (by kernel_rfl) rfl rfl (fun K hK => ?_)
          go_simp
          refine hK _ _ ⟨hI9.2.2.2.2.2.1.cell, hI9.2.2.2.2.1.cell, hI9.1.cell, (hI9.2.2.2.2.2.2.cell (p := ⟨bd, od + k * 4 + 2, none⟩) lbd).trans e2, (hI9.2.2.2.2.2.2.cell (p := ⟨bd, od + k * 4 + 3, none⟩) lbd).trans e3⟩ ?_
          clear hK K hrun hS hI hL hG hm hn
          refine wpAnyH_done (by kernel_rfl) ?_ _
          gi_wp2_with fail
          go_roundw
          case rel =>
            refine ⟨q + 1, by go_num, by omega, hI9, ⟨m + 1, by omega, ?_⟩, hL9, hG9, hn9⟩
            rw [← hstep.out, hkn.out, hbn.out, hbb]
            exact hm9
          case measure => simp [intOf]; omega
        | false =>
          refine held_take (i := 8) (v := ?_) 65 rfl rfl (by kernel_rfl) (by kernel_rfl) (by kernel_rfl) (fun _ _ _ h => h) (Or.inl ⟨by rfl, ?_⟩) hS ?_
          rotate_left 1
          · intro w' hSw
            try dsimp only at hSw
            obtain ⟨q1, q2, q3, q4, q5⟩ := hSw
            go_simp
            all_goals with_reducible rfl
          try simp only [Act.put, List.setIfInBounds_toArray, List.set_cons_zero, List.set_cons_succ]
          refine held_take (i := 9) (v := ?_) 66 rfl rfl (by kernel_rfl) (by kernel_rfl) (by kernel_rfl) (fun _ _ _ h => h) (Or.inl ⟨by rfl, ?_⟩) hS ?_
          rotate_left 1
          · intro w' hSw
            try dsimp only at hSw
            obtain ⟨q1, q2, q3, q4, q5⟩ := hSw
            go_simp
            all_goals with_reducible rfl
          try simp only [Act.put, List.setIfInBounds_toArray, List.set_cons_zero, List.set_cons_succ]
          refine held_take (i := 10) (v := ?_) 67 rfl rfl (by kernel_rfl) (by kernel_rfl) (by kernel_rfl) (fun _ _ _ h => h) (Or.inl ⟨by rfl, ?_⟩) hS ?_
          rotate_left 1
          · intro w' hSw
            try dsimp only at hSw
            obtain ⟨q1, q2, q3, q4, q5⟩ := hSw
            go_simp
            all_goals with_reducible rfl
          try simp only [Act.put, List.setIfInBounds_toArray, List.set_cons_zero, List.set_cons_succ]
          refine held_take (i := 11) (v := ?_) 68 rfl rfl (by kernel_rfl) (by kernel_rfl) (by kernel_rfl) (fun _ _ _ h => h) (Or.inl ⟨by rfl, ?_⟩) hS ?_
          rotate_left 1
          · intro w' hSw
            try dsimp only at hSw
            obtain ⟨q1, q2, q3, q4, q5⟩ := hSw
            go_simp
            all_goals with_reducible rfl
          try simp only [Act.put, List.setIfInBounds_toArray, List.set_cons_zero, List.set_cons_succ]
          refine held_take (i := 12) (v := ?_) 69 rfl rfl (by kernel_rfl) (by kernel_rfl) (by kernel_rfl) (fun _ _ _ h => h) (Or.inl ⟨by rfl, ?_⟩) hS ?_
          rotate_left 1
          · intro w' hSw
            try dsimp only at hSw
            obtain ⟨q1, q2, q3, q4, q5⟩ := hSw
            go_simp
            all_goals with_reducible rfl
          try simp only [Act.put, List.setIfInBounds_toArray, List.set_cons_zero, List.set_cons_succ]
          refine held_take (i := 13) (v := ?_) 70 rfl rfl (by kernel_rfl) (by kernel_rfl) (by kernel_rfl) (fun _ _ _ h => h) (Or.inl ⟨by rfl, ?_⟩) hS ?_
          rotate_left 1
          · intro w' hSw
            try dsimp only at hSw
            obtain ⟨q1, q2, q3, q4, q5⟩ := hSw
            go_simp
            all_goals with_reducible rfl
          try simp only [Act.put, List.setIfInBounds_toArray, List.set_cons_zero, List.set_cons_succ]
          refine held_take (i := 14) (v := ?_) 71 rfl rfl (by kernel_rfl) (by kernel_rfl) (by kernel_rfl) (fun _ _ _ h => h) (Or.inl ⟨by rfl, ?_⟩) hS ?_
          rotate_left 1
          · intro w' hSw
            try dsimp only at hSw
            obtain ⟨q1, q2, q3, q4, q5⟩ := hSw
            go_simp
            all_goals with_reducible rfl
          try simp only [Act.put, List.setIfInBounds_toArray, List.set_cons_zero, List.set_cons_succ]
          refine held_take (i := 15) (v := ?_) 72 rfl rfl (by kernel_rfl) (by kernel_rfl) (by kernel_rfl) (fun _ _ _ h => h) (Or.inl ⟨by rfl, ?_⟩) hS ?_
          rotate_left 1
          · intro w' hSw
            try dsimp only at hSw
            obtain ⟨q1, q2, q3, q4, q5⟩ := hSw
            go_simp
            all_goals with_reducible rfl
          try simp only [Act.put, List.setIfInBounds_toArray, List.set_cons_zero, List.set_cons_succ]
          refine held_take (i := 16) (v := ?_) 73 rfl rfl (by kernel_rfl) (by kernel_rfl) (by kernel_rfl) (fun _ _ _ h => h) (Or.inl ⟨by rfl, ?_⟩) hS ?_
          rotate_left 1
          · intro w' hSw
            try dsimp only at hSw
            obtain ⟨q1, q2, q3, q4, q5⟩ := hSw
            go_simp
            all_goals with_reducible rfl
          try simp only [Act.put, List.setIfInBounds_toArray, List.set_cons_zero, List.set_cons_succ]
          refine held_take (i := 17) (v := ?_) 74 rfl rfl (by kernel_rfl) (by kernel_rfl) (by kernel_rfl) (fun _ _ _ h => h) (Or.inl ⟨by rfl, ?_⟩) hS ?_
          rotate_left 1
          · intro w' hSw
            try dsimp only at hSw
            obtain ⟨q1, q2, q3, q4, q5⟩ := hSw
            go_simp
            all_goals with_reducible rfl
          try simp only [Act.put, List.setIfInBounds_toArray, List.set_cons_zero, List.set_cons_succ]
          refine held_take (i := 18) (v := ?_) 75 rfl rfl (by kernel_rfl) (by kernel_rfl) (by kernel_rfl) (fun _ _ _ h => h) (Or.inl ⟨by rfl, ?_⟩) hS ?_
          rotate_left 1
          · intro w' hSw
            try dsimp only at hSw
            obtain ⟨q1, q2, q3, q4, q5⟩ := hSw
            go_simp
            all_goals with_reducible rfl
          try simp only [Act.put, List.setIfInBounds_toArray, List.set_cons_zero, List.set_cons_succ]
          have hcp := pulled_any s A O' n c co' 0 _ (encAt s bs l (k + 1)) x wt.alo w5 hok.out.1 hek.out hxk.out hwk.out hL.2.2.1 hG
          obtain ⟨pb, hpb⟩ : ∃ pb, pulledS s (encAt s bs l (k + 1)) x wt.alo = pb := ⟨_, rfl⟩
          rw [hpb] at hcp
          refine held_one (i := 19) (by kernel_rfl) rfl rfl (fun K hK => ?_)
          go_simp
          refine hcp.mono ?_
          rintro e w6 ⟨rfl, hb6⟩
          clear hcp hS
          replace hI := hI.below hb6
          replace hL := hL.below hb6
          replace hG := hG.below hb6
          replace hm := hm.below hb6
          replace hn := hn.trans (nc_of_below hb6)
          clear hb6
          have hS : (fun w' : World => (∀ j, w'.cell? ⟨w2.heap.size + 1, j, none⟩ = #[Value.map (some w2.heap.size)][j]?) ∧ (∀ j, w'.cell? ⟨w1.heap.size, j, none⟩ = #[Value.int .i64 s.head, .slice A n c, .int .i64 s.lane.lo, .int .i64 s.lane.hi, .int .i64 s.bend, .slice O n co][j]?) ∧ (∀ j, w'.cell? ⟨w.heap.size + 1, j, none⟩ = #[Value.slice (some ⟨bd, od, none⟩) nd cd][j]?) ∧ w'.cell? ⟨bd, od + k * 4 + 2, none⟩ = some (.int .i64 wt.alo.lo) ∧ w'.cell? ⟨bd, od + k * 4 + 3, none⟩ = some (.int .i64 wt.alo.hi)) w6 := ⟨hI.2.2.2.2.2.1.cell, hI.2.2.2.2.1.cell, hI.1.cell, (hI.2.2.2.2.2.2.cell (p := ⟨bd, od + k * 4 + 2, none⟩) lbd).trans e2, (hI.2.2.2.2.2.2.cell (p := ⟨bd, od + k * 4 + 3, none⟩) lbd).trans e3⟩
          refine hK _ _ hS ?_
          clear hK K
          try simp only [Act.put, List.setIfInBounds_toArray, List.set_cons_zero, List.set_cons_succ]
          refine held_take (i := 20) (v := ?_) 77 rfl rfl (by kernel_rfl) (by kernel_rfl) (by kernel_rfl) (fun _ _ _ h => h) (Or.inl ⟨by rfl, ?_⟩) hS ?_
          rotate_left 1
          · intro w' hSw
            try dsimp only at hSw
            obtain ⟨q1, q2, q3, q4, q5⟩ := hSw
            go_simp
            all_goals with_reducible rfl
          try simp only [Act.put, List.setIfInBounds_toArray, List.set_cons_zero, List.set_cons_succ]
          refine held_take (i := 21) (v := ?_) 78 rfl rfl (by kernel_rfl) (by kernel_rfl) (by kernel_rfl) (fun _ _ _ h => h) (Or.inl ⟨by rfl, ?_⟩) hS ?_
          rotate_left 1
          · intro w' hSw
            try dsimp only at hSw
            obtain ⟨q1, q2, q3, q4, q5⟩ := hSw
            go_simp
            all_goals with_reducible rfl
          try simp only [Act.put, List.setIfInBounds_toArray, List.set_cons_zero, List.set_cons_succ]
          cases pb with
          | true =>
            obtain ⟨w9, hrun, hm9, hg9⟩ := hm.upd (i := k) (k := q) false (by omega) (by omega) (by unfold maxLen; omega)
            have hI9 := hI.grown hg9 hbm (by omega) (by omega)
            have hL9 : StepsL s bs l A O (some ⟨bd, od, none⟩) n c co nd cd (w2.heap.size + 1 + 1) (w2.heap.size + 1 + 1 + 1) w9 := StepsL.base hI9.2.2.2.2.2.2 hss hs hd (hL.1.grown hg9 (by simp; omega)) (hL.2.1.grown hg9 (by simp; omega))
            have hG9 : SlAt w9 (w2.heap.size + 1 + 1 + 1 + 1) 2 Bnd.cells O' n co' (encAt s bs l (k + 1)) := hG.keep hg9.size (fun p hp hlt2 => World.cell?_of_block (hg9.block p.block hlt2 (by simp; omega)))
            have hn9 := hn.trans (nc_grown hg9 (by omega))
            refine held_one (i := 22) (by kernel_rfl) rfl rfl (fun K hK => ?_)
            go_simp
            refine hK _ _ ⟨hI9.2.2.2.2.2.1.cell, hI9.2.2.2.2.1.cell, hI9.1.cell, (hI9.2.2.2.2.2.2.cell (p := ⟨bd, od + k * 4 + 2, none⟩) lbd).trans e2, (hI9.2.2.2.2.2.2.cell (p := ⟨bd, od + k * 4 + 3, none⟩) lbd).trans e3⟩ ?_
            clear hK K hrun hS hI hL hG hm hn
            refine wpAnyH_done (by kernel_rfl) ?_ _
            gi_wp2_with fail
            go_roundw
            case rel =>
              refine ⟨q + 1, by go_num, by omega, hI9, ⟨m + 1, by omega, ?_⟩, hL9, hG9, hn9⟩
              rw [← hstep.out, hkn.out, hbn.out, hbb]
              rw [hpb]; exact hm9
            case measure => simp [intOf]; omega
          | false =>
            obtain ⟨w9, hrun, hm9, hg9⟩ := hm.upd (i := k) (k := q) true (by omega) (by omega) (by unfold maxLen; omega)
            have hI9 := hI.grown hg9 hbm (by omega) (by omega)
            have hL9 : StepsL s bs l A O (some ⟨bd, od, none⟩) n c co nd cd (w2.heap.size + 1 + 1) (w2.heap.size + 1 + 1 + 1) w9 := StepsL.base hI9.2.2.2.2.2.2 hss hs hd (hL.1.grown hg9 (by simp; omega)) (hL.2.1.grown hg9 (by simp; omega))
            have hG9 : SlAt w9 (w2.heap.size + 1 + 1 + 1 + 1) 2 Bnd.cells O' n co' (encAt s bs l (k + 1)) := hG.keep hg9.size (fun p hp hlt2 => World.cell?_of_block (hg9.block p.block hlt2 (by simp; omega)))
            have hn9 := hn.trans (nc_grown hg9 (by omega))
            refine held_one (i := 22) (by kernel_rfl) rfl rfl (fun K hK => ?_)
            go_simp
            refine hK _ _ ⟨hI9.2.2.2.2.2.1.cell, hI9.2.2.2.2.1.cell, hI9.1.cell, (hI9.2.2.2.2.2.2.cell (p := ⟨bd, od + k * 4 + 2, none⟩) lbd).trans e2, (hI9.2.2.2.2.2.2.cell (p := ⟨bd, od + k * 4 + 3, none⟩) lbd).trans e3⟩ ?_
            clear hK K hrun hS hI hL hG hm hn
            refine wpAnyH_done (by kernel_rfl) ?_ _
            gi_wp2_with fail
            go_roundw
            case rel =>
              refine ⟨q + 1, by go_num, by omega, hI9, ⟨m + 1, by omega, ?_⟩, hL9, hG9, hn9⟩
              rw [← hstep.out, hkn.out, hbn.out, hbb]
              rw [hpb]; exact hm9
            case measure => simp [intOf]; omega
      · obtain rfl : q = nc := by omega
        gi_wp2_with fail
        exact ⟨hn, ⟨hI, m, by omega, by rw [← fmap_next]; exact hm⟩, hL⟩
end Go.Proofs.YthjdjpcomocffaaGreat
