/-
  Own texts for one claim, joined: W13 A1 G1.
-/
import Derived.Deep.AppendLies
import Derived.WalkMore
import Derived.Maps.Own
import Derived.Maps.Views
import Derived.WideKeyPair
import Derived.Carry
import Derived.Deep.RegionHeld3
import Derived.Deep.RegionWith
import Derived.BigRegionIn
import Derived.Deep.QuietTactic
import Derived.BigQuiet
import Derived.Deep.RegionHeld3
import Derived.StillTailTactics
import Derived.Shelf.Abstract
import Derived.Test.YtjiaepphnddpoaaGreatChecked
import Derived.Shelf.Abstract
import Derived.Deep.QuietTactic
import Derived.BigQuiet
import Derived.Deep.RegionHeld3
import Derived.StillTailTactics
import Derived.Deep.AppendLies
import Derived.WalkMore
import Derived.WalkKit
import Derived.WalkSpells
import Derived.WalkLawsBesides
import Derived.Lib.Hide
import Derived.OrdersHeld
import Derived.StillTail
import Derived.StillTailTactics
import Derived.RangeFuncNested
import Derived.RangeFuncBound
import Derived.RangeFuncCalls
import Derived.RangeFuncLeaves
import Derived.Shelf.Abstract
import Derived.Shelf.RegionOpen
import Derived.OwnWalkIn
import Derived.TacticsInMore
import Derived.LoopNIn
import Derived.LoopIn
import Derived.OrdersIn
import Derived.Deep.Quiet
import Derived.Deep.QuietTactic
import Derived.BigQuiet
import Derived.Test.YtjiaepphnddpoaaGreatV01
import Derived.Test.YtjiaepphnddpoaaGreatV02
import Derived.Test.YtjiaepphnddpoaaGreatV03
import Derived.Test.YtjiaepphnddpoaaGreatV04
import Derived.Test.YtjiaepphnddpoaaGreatV05
namespace Go.Proofs.YtjiaepphnddpoaaGreat
open Go.RowKit Go.Shelf
attribute [local go_sem] Oper.semAt_some
theorem map_ivs (l : List Int) : l.map (Value.int .i64 ·) = l.flatMap ivs := by induction l with | nil => rfl | cons x l ih => simp [ivs, ih]
theorem sl_reset {w : World} {α : Type} {B s : Nat} {enc : α → List Value} {A : Option Addr} {n c : Nat} {xs : List α} (h : SlAt w B s enc A n c xs) {p : Addr} {u : Value} (hp : w.cell? p = some u) : SlAt (w.setCell p u) B s enc A n c xs := by
  refine h.keep (by simp [World.setCell]) fun q _ _ => ?_
  by_cases e : q = p
  · subst e
    rw [hp]
    exact World.cell?_setCell_same _ _ _ (by rw [hp])
  · exact World.cell?_setCell_other w p q u (fun h => e h.symm)
theorem runPlan_len (p : Nat → Int) (ch : List Int) (nd : Nat) : ∀ r plan way, (runPlan p ch nd r plan way).2.1.length ≤ plan.length + r
  | 0, plan, way => Nat.le_refl _
  | r + 1, plan, way => by
    rw [runPlan]
    split
    · simp
    · have := runPlan_len p ch nd r (plan ++ [p (nd - (r + 1))]) (way + ch.getD (p (nd - (r + 1))).toNat 0)
      simp at this ⊢
      omega
set_option maxRecDepth 100000 in
set_option maxHeartbeats 4000000 in
theorem Fastest_run (s : Strm) (A O D C : Option Addr) (n c co nd cd nc cc : Nat) (bs : List Bnd) (l : List Wat) (ch : List Int) (w : World) (hss : SlAt w 0 5 Sec.cells A n c s.secs) (hs : SlAt w 0 2 Bnd.cells O n co bs) (hd : SlAt w 0 4 Wat.cells D nd cd l) (hcs : SlAt w 0 1 ivs C nc cc ch) (h1 : errBW s bs l = 0) (h3 : 1 ≤ l.length ∧ l.length ≤ 6 ∧ 1 ≤ ch.length ∧ ch.length ≤ 4) (h4 : okSpeeds ch = true) :
    Calls Tryz.prog 22 #[.agg #[.int .i64 s.head, .slice A n c, .int .i64 s.lane.lo, .int .i64 s.lane.hi, .int .i64 s.bend], .slice O n co, .slice D nd cd, .slice C nc cc] w (RetFast (fastR s bs l ch) w) := by
  have hv : Hid (fastR s bs l ch = if (runPlan (fun i => pickTo (keptN s bs l ch i) ch ch.length) ch l.length l.length [] 0).1 = true then ((runPlan (fun i => pickTo (keptN s bs l ch i) ch ch.length) ch l.length l.length [] 0).2.1, (runPlan (fun i => pickTo (keptN s bs l ch i) ch ch.length) ch l.length l.length [] 0).2.2, 0) else ([], 0, 4)) := by
    show _ = _
    unfold fastR; rw [if_neg (by simp [h1]), if_neg (by simpa using h3), if_neg (by simp [h4])]
  have h2 := Lib.hid (errBW_zero h1).1
  have hok := Lib.hid (errB_zero (errBW_zero h1).1)
  have hlw := Lib.hid (show l.all okWat = true by have := (errBW_zero h1).2; unfold okWats at this; simp only [Bool.and_eq_true] at this; exact this.2)
  replace h1 := Lib.hid h1
  have hld := hd.len
  have hlc := hcs.len
  rw [hld, hlc] at h3
  have hwL := fun W => within_any (nd : Int) 1 6 W
  have hwC := fun W => within_any (nc : Int) 1 4 W
  simp only [decide_eq_true (show 1 ≤ (nd : Int) ∧ (nd : Int) ≤ 6 by omega)] at hwL
  simp only [decide_eq_true (show 1 ≤ (nc : Int) ∧ (nc : Int) ≤ 4 by omega)] at hwC
  have hsp := fun W (hW : Below w.heap.size w W) => speeds_any C nc cc 0 ch W (hcs.below hW)
  simp only [h4] at hsp
  replace h4 := Lib.hid h4
  replace h3 := Lib.hid h3
  replace hld := Lib.hid hld
  replace hlc := Lib.hid hlc
  have hmk : ∀ (t : TypeId) (w : World), (Instr.makeMap t none).run Tryz.prog w = .ok (.map (some w.heap.size)) (w.alloc (.map #[] 0)) := fun t w => run_makeMap t w
  refine (callsIn_wide (n := 9)).1 ?_
  refine callsIn_of_wp_marks Tryz.func22 rfl trivial ?_ rfl
  simp only [Tryz.ntmps22, List.size_toArray, List.length_cons, List.length_nil, Nat.reduceAdd, Nat.reduceSub, Array.replicate_succ, Array.replicate_zero, List.push_toArray, List.append_toArray, List.nil_append, List.cons_append]
  refine wpIn_wide.2 ?_
  go_wp2_with fail
  refine (begun_any s A O D n c n co nd cd bs l _ (((((hss.alloc _).alloc _).alloc _).alloc _).alloc _) (((((hs.alloc _).alloc _).alloc _).alloc _).alloc _) (((((hd.alloc _).alloc _).alloc _).alloc _).alloc _)).mono ?_
  rintro e w1 ⟨r1, r2, hb1⟩
  have k6 : Blk w1 (w.heap.size + 1) 30 #[.slice D nd cd] := ((((Blk.newAt (by simp)).alloc _).alloc _).alloc _).below hb1
  have k7 : Blk w1 (w.heap.size + 1 + 1) 31 #[.slice C nc cc] := (((Blk.newAt (by simp)).alloc _).alloc _).below hb1
  have k8 : Blk w1 (w.heap.size + 1 + 1 + 1) 31 #[.slice none 0 0] := ((Blk.newAt (by simp)).alloc _).below hb1
  have k9 : Blk w1 (w.heap.size + 1 + 1 + 1 + 1) 3 #[.int .i64 0] := (Blk.newAt (by simp)).below hb1
  have b1 := ((((((Below.refl w.heap.size w).alloc (Nat.le_refl _) _).alloc (by simp) _).alloc (by simp; omega) _).alloc (by simp; omega) _).alloc (by simp; omega) _).trans (hb1.mono (by simp; omega))
  clear hb1
  rw [h1.out] at r1
  obtain rfl := r1 h2.out
  clear r1 r2
  replace k6 := k6.alloc (.cells #[.int .i64 s.head, .slice A n c, .int .i64 s.lane.lo, .int .i64 s.lane.hi, .int .i64 s.bend, .slice O n co] 104)
  replace k7 := k7.alloc (.cells #[.int .i64 s.head, .slice A n c, .int .i64 s.lane.lo, .int .i64 s.lane.hi, .int .i64 s.bend, .slice O n co] 104)
  replace k8 := k8.alloc (.cells #[.int .i64 s.head, .slice A n c, .int .i64 s.lane.lo, .int .i64 s.lane.hi, .int .i64 s.bend, .slice O n co] 104)
  replace k9 := k9.alloc (.cells #[.int .i64 s.head, .slice A n c, .int .i64 s.lane.lo, .int .i64 s.lane.hi, .int .i64 s.bend, .slice O n co] 104)
  have k11 := Blk.new w1 104 #[.int .i64 s.head, .slice A n c, .int .i64 s.lane.lo, .int .i64 s.lane.hi, .int .i64 s.bend, .slice O n co]
  replace b1 := b1.alloc b1.size (.cells #[.int .i64 s.head, .slice A n c, .int .i64 s.lane.lo, .int .i64 s.lane.hi, .int .i64 s.bend, .slice O n co] 104)
  obtain ⟨c6, f6, l6⟩ := k6.rules
  go_wp2_with fail
  refine (hwL _).mono ?_
  rintro e w' ⟨rfl, rfl⟩
  obtain ⟨c7, f7, l7⟩ := k7.rules
  go_wp2_with fail
  refine (hwC _).mono ?_
  rintro e w' ⟨rfl, rfl⟩
  go_wp2_with fail
  refine (hsp _ b1).mono ?_
  rintro e w2 ⟨rfl, hb2⟩
  clear c6 f6 l6 c7 f7 l7 hsp hwC hwL
  replace k6 := k6.below hb2
  replace k7 := k7.below hb2
  replace k8 := k8.below hb2
  replace k9 := k9.below hb2
  replace k11 := k11.below hb2
  replace b1 := b1.trans (hb2.mono b1.size)
  clear hb2
  have hkm := kmap_made w2
  have l6 := k6.lt
  have l9 := k9.lt
  have l11 := k11.lt
  replace k6 := (k6.alloc (.map #[] 0)).alloc (.cells #[.map (some w2.heap.size)] 125)
  replace k7 := (k7.alloc (.map #[] 0)).alloc (.cells #[.map (some w2.heap.size)] 125)
  replace k8 := (k8.alloc (.map #[] 0)).alloc (.cells #[.map (some w2.heap.size)] 125)
  replace k9 := (k9.alloc (.map #[] 0)).alloc (.cells #[.map (some w2.heap.size)] 125)
  replace k11 := (k11.alloc (.map #[] 0)).alloc (.cells #[.map (some w2.heap.size)] 125)
  have k12 : Blk ((w2.alloc (.map #[] 0)).alloc (.cells #[.map (some w2.heap.size)] 125)) (w2.heap.size + 1) 125 #[.map (some w2.heap.size)] := Blk.newAt (by simp)
  replace hkm := hkm.block (w' := (w2.alloc (.map #[] 0)).alloc (.cells #[.map (some w2.heap.size)] 125)) (Below.heap_alloc _ _ _ (by simp))
  replace b1 := (b1.alloc b1.size (.map #[] 0)).alloc (by have := b1.size; simp; omega) (.cells #[.map (some w2.heap.size)] 125)
  obtain ⟨c6, f6, -⟩ := k6.rules
  obtain ⟨c11, f11, -⟩ := k11.rules
  go_wp2_with fail
  refine (steps_any s A O D n c co n nd cd _).mono ?_
  rintro e w4 ⟨rfl, rfl⟩
  clear c6 f6 c11 f11
  go_wp2_with fail
  obtain ⟨W0, hW0⟩ : ∃ W0, W0 = ((((w2.alloc (.map #[] 0)).alloc (.cells #[.map (some w2.heap.size)] 125)).alloc (.cells #[.int .i64 s.head, .slice A n c, .int .i64 s.lane.lo, .int .i64 s.lane.hi, .int .i64 s.bend, .slice O n co] 104)).alloc (.cells #[.slice D nd cd] 30)) := ⟨_, rfl⟩
  rw [← hW0]
  have hI0 : FastI s A O D C n c co nd cd nc cc w1.heap.size (w2.heap.size + 1) w2.heap.size w W0 := by
    rw [hW0]
    have ba := b1.alloc b1.size (.cells #[.int .i64 s.head, .slice A n c, .int .i64 s.lane.lo, .int .i64 s.lane.hi, .int .i64 s.bend, .slice O n co] 104)
    exact ⟨(k6.alloc _).alloc _, (k7.alloc _).alloc _, (k8.alloc _).alloc _, (k9.alloc _).alloc _, (k11.alloc _).alloc _, (k12.alloc _).alloc _, ba.alloc ba.size _⟩
  have kt : Blk W0 (w2.heap.size + 1 + 1) 104 #[.int .i64 s.head, .slice A n c, .int .i64 s.lane.lo, .int .i64 s.lane.hi, .int .i64 s.bend, .slice O n co] := by rw [hW0]; exact (Blk.newAt (by simp)).alloc _
  have kl : Blk W0 (w2.heap.size + 1 + 1 + 1) 30 #[.slice D nd cd] := by rw [hW0]; exact Blk.newAt (by simp)
  have hm0 : KMap W0 w2.heap.size 0 (fmap (keptN s bs l ch) nc 0 0) := by
    rw [hW0, fmap_zero]
    exact hkm.block ((Below.heap_alloc _ _ _ (by rw [World.size_alloc, World.size_alloc, World.size_alloc]; omega)).trans (Below.heap_alloc _ _ _ (by rw [World.size_alloc, World.size_alloc]; omega)))
  have hsz : W0.heap.size = w2.heap.size + 4 := by rw [hW0]; simp
  have hLs : StepsL s bs l A O D n c co nd cd (w2.heap.size + 1 + 1) (w2.heap.size + 1 + 1 + 1) W0 := StepsL.base hI0.2.2.2.2.2.2 hss hs hd kt kl
  have hbm : w.heap.size + 1 + 1 + 1 + 1 < w2.heap.size := l9
  have hgt : w1.heap.size < w2.heap.size := l11
  clear hW0 kt kl k6 k7 k8 k9 k11 k12 hkm b1
  refine (wpIn_wide (n := 9)).1 ?_
  refine wp_range rfl (by decide) (gf := 119) (lb := #[.pointer (some ⟨w2.heap.size + 1 + 1, 0, none⟩), .pointer (some ⟨w2.heap.size + 1 + 1 + 1, 0, none⟩)]) rfl trivial eg_steps1
    (steps1_iter _ s bs l A O D n c co nd cd _ _ hok.out.1 hok.out.2 hlw.out) (fun k vs W ⟨O', co', e, _⟩ => by rw [e]; rfl)
    (fun k W => FastI s A O D C n c co nd cd nc cc w1.heap.size (w2.heap.size + 1) w2.heap.size w W ∧ ∃ m, m ≤ 4 * k ∧ KMap W w2.heap.size m (fmap (keptN s bs l ch) nc k 0))
    (fun _ _ => False) (fun k A B h hc => ⟨h.1.calm hc (by omega), h.2.choose, h.2.choose_spec.1, h.2.choose_spec.2.block (hc.1.block _ (by omega))⟩) (fun _ _ _ h _ => h) (fun A B h hc => h.calm hc) ⟨hI0, 0, by omega, hm0⟩ hLs ?round ?done ?stop
  case stop => exact fun _ _ _ _ h _ => h.elim
  case done =>
    rintro Dd W hD ⟨hI, m, -, hm⟩ hK
    have hst : ∀ (a : Addr) (fn : Fn) (b c : Array Value) (m : Mode) (w : World), (store a (.func fn b c) m).run Tryz.prog w = stored Tryz.prog w a (.func fn b c) m := fun _ _ _ _ _ _ => run_store _ _ _ _ _ rfl
    obtain ⟨k6, k7, k8, k9, -, k12, hb⟩ := hI
    have hrc : runPlan (fun i => pickTo (fmap (keptN s bs l ch) nc nd 0 i) ch ch.length) ch nd nd [] 0 = runPlan (fun i => pickTo (keptN s bs l ch i) ch ch.length) ch nd nd [] 0 :=
      runPlan_congr ch nd (fun i hi => pickTo_congr ch _ (fun q hq => by rw [hlc.out] at hq; simp [fmap, hi, hq])) nd [] 0 (Nat.le_refl _)
    have hlen := runPlan_len (fun i => pickTo (keptN s bs l ch i) ch ch.length) ch nd nd [] 0
    rw [hld.out] at hv
    obtain ⟨⟨ok, plan, way⟩, hRP⟩ : ∃ x, runPlan (fun i => pickTo (keptN s bs l ch i) ch ch.length) ch nd nd [] 0 = x := ⟨_, rfl⟩
    rw [hRP] at hrc hlen hv
    have hch := choose_any w w.heap.size rfl ch (fmap (keptN s bs l ch) nc nd 0) D C nd cd nc cc w2.heap.size m (w.heap.size + 1) (w.heap.size + 1 + 1) (w2.heap.size + 1) (w.heap.size + 1 + 1 + 1) (w.heap.size + 1 + 1 + 1 + 1) W.heap.size
      (by have := hb.size; omega) (by omega) (by have := h3.out; omega) (by have := h3.out; omega) h4.out hcs (by omega) (by have := hb.size; have := k12.lt; omega) nd 0 (.slice none 0 0) [] 0 (W.alloc (.cells #[.func (.func 74) #[] #[.pointer (some ⟨w.heap.size + 1, 0, none⟩), .pointer (some ⟨w.heap.size + 1 + 1, 0, none⟩), .pointer (some ⟨w2.heap.size + 1, 0, none⟩), .pointer (some ⟨w.heap.size + 1 + 1 + 1, 0, none⟩), .pointer (some ⟨w.heap.size + 1 + 1 + 1 + 1, 0, none⟩), .pointer (some ⟨W.heap.size, 0, none⟩)]] 130)) (by omega) rfl (by omega) (by omega) (fun _ _ => by simp [Value.ownBlock])
      (k6.alloc _) (k7.alloc _) (k12.alloc _) (k8.alloc _) (k9.alloc _) (Blk.new W _ _) (hb.alloc hb.size _) (hm.block (Below.heap_alloc _ _ _ hm.lt)) ⟨rfl, .inl ⟨rfl, rfl⟩⟩
    rw [hrc] at hch
    have hKa : (W.alloc (.cells #[.func (.func 74) #[] #[.pointer (some ⟨w.heap.size + 1, 0, none⟩), .pointer (some ⟨w.heap.size + 1 + 1, 0, none⟩), .pointer (some ⟨w2.heap.size + 1, 0, none⟩), .pointer (some ⟨w.heap.size + 1 + 1 + 1, 0, none⟩), .pointer (some ⟨w.heap.size + 1 + 1 + 1 + 1, 0, none⟩), .pointer (some ⟨W.heap.size, 0, none⟩)]] 130)).heap[Dd]? = some (.deferred (some [])) := (Below.heap_alloc _ _ _ (Array.getElem?_eq_some_iff.1 hK).1).trans hK
    have lDd := (Array.getElem?_eq_some_iff.1 hKa).1
    replace hch := Lib.hid hch
    replace hRP := Lib.hid hRP
    replace hrc := Lib.hid hrc
    replace hv := Lib.hid hv
    replace hlen := Lib.hid hlen
    have hbA := hb.alloc hb.size (.cells #[.func (.func 74) #[] #[.pointer (some ⟨w.heap.size + 1, 0, none⟩), .pointer (some ⟨w.heap.size + 1 + 1, 0, none⟩), .pointer (some ⟨w2.heap.size + 1, 0, none⟩), .pointer (some ⟨w.heap.size + 1 + 1 + 1, 0, none⟩), .pointer (some ⟨w.heap.size + 1 + 1 + 1 + 1, 0, none⟩), .pointer (some ⟨W.heap.size, 0, none⟩)]] 130)
    clear k6 k7 k12 hm hb
    go_wp2_with fail
    refine hch.out.mono ?_
    rintro e w6 ⟨v', rfl, hb6, k8', ⟨n', hown'⟩, k9', hkp⟩
    clear hch
    replace hb6 := hbA.trans hb6
    have hK6 : w6.heap[Dd]? = some (.deferred (some [])) := (hkp Dd lDd (by omega) (by omega) (by simp [Value.ownBlock])).trans hKa
    clear hkp hKa hK k8 k9
    cases ok with
    | false =>
      have k8z := (k8'.set_ 0 (.slice none 0 0)).far (p := ⟨w.heap.size + 1 + 1 + 1 + 1, 0, none⟩) (by dsimp only; omega) (.int .i64 0)
      have k9z := (k9'.far (p := ⟨w.heap.size + 1 + 1 + 1, 0, none⟩) (by dsimp only; omega) (.slice none 0 0)).set_ 0 (.int .i64 0)
      have bz := (hb6.setCell (p := ⟨w.heap.size + 1 + 1 + 1, 0, none⟩) (by dsimp only; omega) (.slice none 0 0)).setCell (p := ⟨w.heap.size + 1 + 1 + 1 + 1, 0, none⟩) (by dsimp only; omega) (.int .i64 0)
      have hKz : ((w6.setCell ⟨w.heap.size + 1 + 1 + 1, 0, none⟩ (.slice none 0 0)).setCell ⟨w.heap.size + 1 + 1 + 1 + 1, 0, none⟩ (.int .i64 0)).heap[Dd]? = some (.deferred (some [])) := (Below.heap_setCell _ _ _ _ (by dsimp only; omega)).trans ((Below.heap_setCell _ _ _ _ (by dsimp only; omega)).trans hK6)
      obtain ⟨c8, f8, l8⟩ := k8'.rules
      obtain ⟨c9, f9, l9⟩ := k9'.rules
      go_wp2_with fail
      clear c8 f8 l8 c9 f9 l9
      refine ⟨by simp, .inl ⟨_, _, rfl, run_takeDeferred hKz, ?_⟩⟩
      have hcp := calm_put (B := w.heap.size) (.deferred none) hKz rfl (by omega)
      obtain ⟨c8, f8, l8⟩ := (calm_blk hcp k8z).rules
      obtain ⟨c9, f9, l9⟩ := (calm_blk hcp k9z).rules
      rw [hv.out]
      exact ⟨.tuple #[.slice none 0 0, .int .i64 0, .int .i64 4], by simp [results, Tryz.results22, go_sem, c8, c9], none, 0, 0, rfl, SlAt.nil _ _ _ _, calm_below hcp bz (Nat.le_refl _)⟩
    | true =>
      have hn' : plan.length = n' := by have := hown'.1; simpa using this
      obtain ⟨P, pc, rfl, hsl⟩ := SlAt.of_own (enc := ivs) hown' (by have a1 := hlen.out; have a2 := h3.out; have a3 : ([] : List Int).length = 0 := rfl; omega) plan (map_ivs plan) (fun _ => rfl) hn'
      clear hown'
      go_wp2_with fail
      refine wp_held_np (fun w' : World => (∀ j, w'.cell? ⟨w.heap.size + 1 + 1 + 1, j, none⟩ = #[Value.slice P n' pc][j]?) ∧ (∀ j, w'.cell? ⟨w.heap.size + 1 + 1 + 1 + 1, j, none⟩ = #[Value.int .i64 way][j]?)) (by kernel_rfl) ?_
      have hS : (fun w' : World => (∀ j, w'.cell? ⟨w.heap.size + 1 + 1 + 1, j, none⟩ = #[Value.slice P n' pc][j]?) ∧ (∀ j, w'.cell? ⟨w.heap.size + 1 + 1 + 1 + 1, j, none⟩ = #[Value.int .i64 way][j]?)) w6.drew := ⟨k8'.cell, k9'.cell⟩
      replace k8' := k8'.drew
      replace k9' := k9'.drew
      replace hb6 := hb6.drew
      replace hsl := hsl.drew
      replace hK6 : w6.drew.heap[Dd]? = some (.deferred (some [])) := hK6
      generalize w6.drew = w7 at *
      refine held_take (i := 0) (v := ?_) 84 rfl rfl (by kernel_rfl) (by kernel_rfl) (by kernel_rfl) (fun _ _ _ h => h) (Or.inl ⟨by rfl, ?_⟩) hS ?_
      rotate_left 1
      · intro w' hSw
        try dsimp only at hSw
        obtain ⟨q1, q2⟩ := hSw
        go_simp
        all_goals with_reducible rfl
      try simp only [Act.put, List.setIfInBounds_toArray, List.set_cons_zero, List.set_cons_succ]
      refine held_take (i := 1) (v := ?_) 85 rfl rfl (by kernel_rfl) (by kernel_rfl) (by kernel_rfl) (fun _ _ _ h => h) (Or.inl ⟨by rfl, ?_⟩) hS ?_
      rotate_left 1
      · intro w' hSw
        try dsimp only at hSw
        obtain ⟨q1, q2⟩ := hSw
        go_simp
        all_goals with_reducible rfl
      try simp only [Act.put, List.setIfInBounds_toArray, List.set_cons_zero, List.set_cons_succ]
      have k8z := k8'.set_ 0 (.slice P n' pc)
      have k9z := k9'.far (p := ⟨w.heap.size + 1 + 1 + 1, 0, none⟩) (by dsimp only; omega) (.slice P n' pc)
      have bz := hb6.setCell (p := ⟨w.heap.size + 1 + 1 + 1, 0, none⟩) (by dsimp only; omega) (.slice P n' pc)
      have hKz : (w7.setCell ⟨w.heap.size + 1 + 1 + 1, 0, none⟩ (.slice P n' pc)).heap[Dd]? = some (.deferred (some [])) := (Below.heap_setCell _ _ _ _ (by dsimp only; omega)).trans hK6
      obtain ⟨c8, f8, l8⟩ := k8'.rules
      refine held_one (i := 2) (by kernel_rfl) rfl rfl (fun K hK => ?_)
      go_simp
      refine hK _ _ ⟨k8z.cell, k9z.cell⟩ ?_
      clear hK K c8 f8 l8 hS
      have hslz := sl_reset hsl (p := ⟨w.heap.size + 1 + 1 + 1, 0, none⟩) (u := .slice P n' pc) (k8'.cell 0)
      clear k8' k9' hb6 hK6 hsl
      generalize w7.setCell ⟨w.heap.size + 1 + 1 + 1, 0, none⟩ (.slice P n' pc) = w8 at *
      try simp only [Act.put, List.setIfInBounds_toArray, List.set_cons_zero, List.set_cons_succ]
      have k8y := k8z.far (p := ⟨w.heap.size + 1 + 1 + 1 + 1, 0, none⟩) (by dsimp only; omega) (.int .i64 way)
      have k9y := k9z.set_ 0 (.int .i64 way)
      have by_ := bz.setCell (p := ⟨w.heap.size + 1 + 1 + 1 + 1, 0, none⟩) (by dsimp only; omega) (.int .i64 way)
      have hKy : (w8.setCell ⟨w.heap.size + 1 + 1 + 1 + 1, 0, none⟩ (.int .i64 way)).heap[Dd]? = some (.deferred (some [])) := (Below.heap_setCell _ _ _ _ (by dsimp only; omega)).trans hKz
      have hsly := sl_reset hslz (p := ⟨w.heap.size + 1 + 1 + 1 + 1, 0, none⟩) (u := .int .i64 way) (k9z.cell 0)
      obtain ⟨c9, f9, l9⟩ := k9z.rules
      refine held_one (i := 3) (by kernel_rfl) rfl rfl (fun K hK => ?_)
      go_simp
      refine hK _ _ ⟨k8y.cell, k9y.cell⟩ ?_
      clear hK K c9 f9 l9 k8z k9z bz hKz hslz
      generalize w8.setCell ⟨w.heap.size + 1 + 1 + 1 + 1, 0, none⟩ (.int .i64 way) = w9 at *
      have hS : (fun w' : World => (∀ j, w'.cell? ⟨w.heap.size + 1 + 1 + 1, j, none⟩ = #[Value.slice P n' pc][j]?) ∧ (∀ j, w'.cell? ⟨w.heap.size + 1 + 1 + 1 + 1, j, none⟩ = #[Value.int .i64 way][j]?)) w9 := ⟨k8y.cell, k9y.cell⟩
      try simp only [Act.put, List.setIfInBounds_toArray, List.set_cons_zero, List.set_cons_succ]
      refine held_take (i := 4) (v := ?_) 10 rfl rfl (by kernel_rfl) (by kernel_rfl) (by kernel_rfl) (fun _ _ _ h => h) (Or.inl ⟨by rfl, ?_⟩) hS ?_
      rotate_left 1
      · intro w' hSw
        try dsimp only at hSw
        obtain ⟨q1, q2⟩ := hSw
        go_simp
        all_goals with_reducible rfl
      try simp only [Act.put, List.setIfInBounds_toArray, List.set_cons_zero, List.set_cons_succ]
      refine wpAnyH_done (by kernel_rfl) (noPanic_normal ?_) _
      go_wp2_with fail
      refine ⟨by simp, .inl ⟨_, _, rfl, run_takeDeferred hKy, ?_⟩⟩
      have hcp := calm_put (B := w.heap.size) (.deferred none) hKy rfl (by omega)
      obtain ⟨c8, f8, l8⟩ := (calm_blk hcp k8y).rules
      obtain ⟨c9, f9, l9⟩ := (calm_blk hcp k9y).rules
      rw [hv.out]
      exact ⟨.tuple #[.slice P n' pc, .int .i64 way, .int .i64 0], by simp [results, Tryz.results22, go_sem, c8, c9], P, n', pc, rfl, calm_sl hcp hsly, calm_below hcp by_ (Nat.le_refl _)⟩
  case round =>
    rintro lr k vs W hW hk ⟨hI, m, hmk4, hm⟩ hL ⟨O', co', rfl, hG⟩
    gi_wp2_with fail
    refine ⟨Below.refl _ _, fun W2 hc => ?_⟩
    replace hI := hI.calm hc (by omega)
    replace hL := hL.calm hc
    replace hG := calm_sl hc hG
    replace hm := hm.block (hc.1.block _ (by omega))
    clear hc hI0 hLs hm0
    have hbn : Hid (bentN s bs l k = bentS s (encAt s bs l (k + 1))) := rfl
    have hek := Lib.hid (encAt_ok hok.out.1 hok.out.2 hlw.out (k + 1))
    obtain ⟨wt, hwt⟩ := some_of_lt hld.out hk
    have hwtd := wat_getD hwt
    have hwk := Lib.hid (hwtd ▸ (okWat_get hlw.out k).2)
    have hcl := Lib.hid hcs.len
    have hc7 := hI.2.1
    have hn4 := h3.out
    obtain ⟨c7, f7, l7⟩ := hc7.rules
    have hn0 := NC.refl W0.heap.size W2
    gi_wp2_with fail
    clear c7 f7 l7 hc7
    gi_loopw [52] (fun j wr => ∃ q : Nat, j = .int .i64 q ∧ q ≤ nc ∧ FastI s A O D C n c co nd cd nc cc w1.heap.size (w2.heap.size + 1) w2.heap.size w wr ∧ (∃ m, m ≤ 4 * k + q ∧ KMap wr w2.heap.size m (fmap (keptN s bs l ch) nc k q)) ∧ StepsL s bs l A O D n c co nd cd (w2.heap.size + 1 + 1) (w2.heap.size + 1 + 1 + 1) wr ∧ SlAt wr (w2.heap.size + 1 + 1 + 1 + 1) 2 Bnd.cells O' n co' (encAt s bs l (k + 1)) ∧ NC W0.heap.size W2 wr) (fun j wr => nc - (intOf j).toNat)
    case atStart => exact ⟨0, rfl, Nat.zero_le _, hI, ⟨m, by omega, hm⟩, hL, hG, hn0⟩
    case round =>
      clear hI hm hmk4 m hL hG hn0
      obtain ⟨q, rfl, hq, hI, ⟨m, hmk4, hm⟩, hL, hG, hn⟩ := hrel
      by_cases hlt : q < nc
      · obtain ⟨x, hx⟩ := some_of_lt hcl.out hlt
        have hxd : ch.getD q 0 = x := by rw [List.getD_eq_getElem?_getD, hx]; rfl
        obtain ⟨bc, oc, hC, -, hbcl, e0⟩ := hcs.int hx
        replace e0 := (hI.2.2.2.2.2.2.cell (by dsimp only; omega)).trans e0
        obtain ⟨bd, od, hD, -, lbd, -, -, e2, e3⟩ := hd.wat hwt
        have hxk := Lib.hid (List.all_eq_true.1 h4.out x (List.mem_of_getElem? hx))
        have hkn : Hid (keptN s bs l ch k q = (!bentN s bs l k && !pulledS s (encAt s bs l (k + 1)) x wt.alo)) := by show keptN s bs l ch k q = _; unfold keptN; rw [hxd, hwtd]
        have hstep := Lib.hid (fmap_step (keptN s bs l ch) nc k q)
        replace hx := Lib.hid hx
        clear hxd
        have hq0 : (0 : Int) ≤ (q : Int) := by omega
        have hq1 : (q : Int) < (nc : Int) := by omega
        have hk0 : (0 : Int) ≤ (k : Int) := by omega
        have hk1 : (k : Int) < (nd : Int) := by omega
        subst hC
        subst hD
        obtain ⟨k6, k7, k8, k9, k11, k12, hb⟩ := hI
        gi_wp2_with fail
        refine wpIn_held_round (fun w' : World => (∀ j, w'.cell? ⟨w2.heap.size + 1, j, none⟩ = #[Value.map (some w2.heap.size)][j]?) ∧ (∀ j, w'.cell? ⟨w1.heap.size, j, none⟩ = #[Value.int .i64 s.head, .slice A n c, .int .i64 s.lane.lo, .int .i64 s.lane.hi, .int .i64 s.bend, .slice O n co][j]?) ∧ (∀ j, w'.cell? ⟨w.heap.size + 1, j, none⟩ = #[Value.slice (some ⟨bd, od, none⟩) nd cd][j]?) ∧ w'.cell? ⟨bd, od + k * 4 + 2, none⟩ = some (.int .i64 wt.alo.lo) ∧ w'.cell? ⟨bd, od + k * 4 + 3, none⟩ = some (.int .i64 wt.alo.hi)) (by kernel_rfl) (by kernel_rfl) (by rintro ⟨_, _, h⟩; exact h) ?_
        have hS : (fun w' : World => (∀ j, w'.cell? ⟨w2.heap.size + 1, j, none⟩ = #[Value.map (some w2.heap.size)][j]?) ∧ (∀ j, w'.cell? ⟨w1.heap.size, j, none⟩ = #[Value.int .i64 s.head, .slice A n c, .int .i64 s.lane.lo, .int .i64 s.lane.hi, .int .i64 s.bend, .slice O n co][j]?) ∧ (∀ j, w'.cell? ⟨w.heap.size + 1, j, none⟩ = #[Value.slice (some ⟨bd, od, none⟩) nd cd][j]?) ∧ w'.cell? ⟨bd, od + k * 4 + 2, none⟩ = some (.int .i64 wt.alo.lo) ∧ w'.cell? ⟨bd, od + k * 4 + 3, none⟩ = some (.int .i64 wt.alo.hi)) wr.drew := ⟨k12.cell, k11.cell, k6.cell, (hb.cell (p := ⟨bd, od + k * 4 + 2, none⟩) lbd).trans e2, (hb.cell (p := ⟨bd, od + k * 4 + 3, none⟩) lbd).trans e3⟩
        replace hI : FastI s A O (some ⟨bd, od, none⟩) (some ⟨bc, oc, none⟩) n c co nd cd nc cc w1.heap.size (w2.heap.size + 1) w2.heap.size w wr.drew := ⟨k6, k7, k8, k9, k11, k12, hb.drew⟩
        clear k6 k7 k8 k9 k11 k12 hb
        replace hL : StepsL s bs l A O (some ⟨bd, od, none⟩) n c co nd cd (w2.heap.size + 1 + 1) (w2.heap.size + 1 + 1 + 1) wr.drew := hL
        replace hG := hG.drew
        replace hm : KMap wr.drew _ _ _ := hm
        replace hn := hn.trans (nc_drew wr)
        generalize wr.drew = W5 at *
        refine held_take (i := 0) (v := ?_) 57 rfl rfl (by kernel_rfl) (by kernel_rfl) (by kernel_rfl) (fun _ _ _ h => h) (Or.inl ⟨by rfl, ?_⟩) hS ?_
        rotate_left 1
        · intro w' hSw
          try dsimp only at hSw
          obtain ⟨q1, q2, q3, q4, q5⟩ := hSw
          go_simp
          all_goals with_reducible rfl
        try simp only [Act.put, List.setIfInBounds_toArray, List.set_cons_zero, List.set_cons_succ]
        refine held_take (i := 1) (v := ?_) 58 rfl rfl (by kernel_rfl) (by kernel_rfl) (by kernel_rfl) (fun _ _ _ h => h) (Or.inl ⟨by rfl, ?_⟩) hS ?_
        rotate_left 1
        · intro w' hSw
          try dsimp only at hSw
          obtain ⟨q1, q2, q3, q4, q5⟩ := hSw
          go_simp
          all_goals with_reducible rfl
        try simp only [Act.put, List.setIfInBounds_toArray, List.set_cons_zero, List.set_cons_succ]
        refine held_take (i := 2) (v := ?_) 59 rfl rfl (by kernel_rfl) (by kernel_rfl) (by kernel_rfl) (fun _ _ _ h => h) (Or.inl ⟨by rfl, ?_⟩) hS ?_
        rotate_left 1
        · intro w' hSw
          try dsimp only at hSw
          obtain ⟨q1, q2, q3, q4, q5⟩ := hSw
          go_simp
          all_goals with_reducible rfl
        try simp only [Act.put, List.setIfInBounds_toArray, List.set_cons_zero, List.set_cons_succ]
        refine held_take (i := 3) (v := ?_) 60 rfl rfl (by kernel_rfl) (by kernel_rfl) (by kernel_rfl) (fun _ _ _ h => h) (Or.inl ⟨by rfl, ?_⟩) hS ?_
        rotate_left 1
        · intro w' hSw
          try dsimp only at hSw
          obtain ⟨q1, q2, q3, q4, q5⟩ := hSw
          go_simp
          all_goals with_reducible rfl
        try simp only [Act.put, List.setIfInBounds_toArray, List.set_cons_zero, List.set_cons_succ]
        refine held_take (i := 4) (v := ?_) 61 rfl rfl (by kernel_rfl) (by kernel_rfl) (by kernel_rfl) (fun _ _ _ h => h) (Or.inl ⟨by rfl, ?_⟩) hS ?_
        rotate_left 1
        · intro w' hSw
          try dsimp only at hSw
          obtain ⟨q1, q2, q3, q4, q5⟩ := hSw
          go_simp
          all_goals with_reducible rfl
        try simp only [Act.put, List.setIfInBounds_toArray, List.set_cons_zero, List.set_cons_succ]
        refine held_take (i := 5) (v := ?_) 62 rfl rfl (by kernel_rfl) (by kernel_rfl) (by kernel_rfl) (fun _ _ _ h => h) (Or.inl ⟨by rfl, ?_⟩) hS ?_
        rotate_left 1
        · intro w' hSw
          try dsimp only at hSw
          obtain ⟨q1, q2, q3, q4, q5⟩ := hSw
          go_simp
          all_goals with_reducible rfl
        try simp only [Act.put, List.setIfInBounds_toArray, List.set_cons_zero, List.set_cons_succ]
        refine held_take (i := 6) (v := ?_) 63 rfl rfl (by kernel_rfl) (by kernel_rfl) (by kernel_rfl) (fun _ _ _ h => h) (Or.inl ⟨by rfl, ?_⟩) hS ?_
        rotate_left 1
        · intro w' hSw
          try dsimp only at hSw
          obtain ⟨q1, q2, q3, q4, q5⟩ := hSw
          go_simp
          all_goals with_reducible rfl
        try simp only [Act.put, List.setIfInBounds_toArray, List.set_cons_zero, List.set_cons_succ]
        have hcb := bent_any s A O' n c n co' _ (encAt s bs l (k + 1)) W5 (ok_head hok.out.1) (okOffs_all hek.out) hG
        obtain ⟨bb, hbb⟩ : ∃ bb, bentS s (encAt s bs l (k + 1)) = bb := ⟨_, rfl⟩
        rw [hbb] at hcb
        replace hbb := hbb
        refine held_one (i := 7) (by kernel_rfl) rfl rfl (fun K hK => ?_)
        go_simp
        refine hcb.mono ?_
        rintro e w5 ⟨rfl, hb5⟩
        clear hcb hS
        replace hI := hI.below hb5
        replace hL := hL.below hb5
        replace hG := hG.below hb5
        replace hm := hm.below hb5
        replace hn := hn.trans (nc_of_below hb5)
        clear hb5
        have hS : (fun w' : World => (∀ j, w'.cell? ⟨w2.heap.size + 1, j, none⟩ = #[Value.map (some w2.heap.size)][j]?) ∧ (∀ j, w'.cell? ⟨w1.heap.size, j, none⟩ = #[Value.int .i64 s.head, .slice A n c, .int .i64 s.lane.lo, .int .i64 s.lane.hi, .int .i64 s.bend, .slice O n co][j]?) ∧ (∀ j, w'.cell? ⟨w.heap.size + 1, j, none⟩ = #[Value.slice (some ⟨bd, od, none⟩) nd cd][j]?) ∧ w'.cell? ⟨bd, od + k * 4 + 2, none⟩ = some (.int .i64 wt.alo.lo) ∧ w'.cell? ⟨bd, od + k * 4 + 3, none⟩ = some (.int .i64 wt.alo.hi)) w5 := ⟨hI.2.2.2.2.2.1.cell, hI.2.2.2.2.1.cell, hI.1.cell, (hI.2.2.2.2.2.2.cell (p := ⟨bd, od + k * 4 + 2, none⟩) lbd).trans e2, (hI.2.2.2.2.2.2.cell (p := ⟨bd, od + k * 4 + 3, none⟩) lbd).trans e3⟩
        refine hK _ _ hS ?_
        clear hK K
        try simp only [Act.put, List.setIfInBounds_toArray, List.set_cons_zero, List.set_cons_succ]
        cases bb with
        | true =>
          refine held_take (i := 8) (v := ?_) 65 rfl rfl (by kernel_rfl) (by kernel_rfl) (by kernel_rfl) (fun _ _ _ h => h) (Or.inl ⟨by rfl, ?_⟩) hS ?_
          rotate_left 1
          · intro w' hSw
            try dsimp only at hSw
            obtain ⟨q1, q2, q3, q4, q5⟩ := hSw
            go_simp
            all_goals with_reducible rfl
          try simp only [Act.put, List.setIfInBounds_toArray, List.set_cons_zero, List.set_cons_succ]
          refine held_take (i := 9) (v := ?_) 66 rfl rfl (by kernel_rfl) (by kernel_rfl) (by kernel_rfl) (fun _ _ _ h => h) (Or.inl ⟨by rfl, ?_⟩) hS ?_
          rotate_left 1
          · intro w' hSw
            try dsimp only at hSw
            obtain ⟨q1, q2, q3, q4, q5⟩ := hSw
            go_simp
            all_goals with_reducible rfl
          try simp only [Act.put, List.setIfInBounds_toArray, List.set_cons_zero, List.set_cons_succ]
          refine held_take (i := 10) (v := undef) 67 rfl rfl (by kernel_rfl) (by kernel_rfl) (by kernel_rfl) (fun _ _ _ h => h) (Or.inr ⟨by rfl, rfl⟩) hS ?_
          try simp only [Act.put, List.setIfInBounds_toArray, List.set_cons_zero, List.set_cons_succ]
          refine held_take (i := 11) (v := undef) 68 rfl rfl (by kernel_rfl) (by kernel_rfl) (by kernel_rfl) (fun _ _ _ h => h) (Or.inr ⟨by rfl, rfl⟩) hS ?_
          try simp only [Act.put, List.setIfInBounds_toArray, List.set_cons_zero, List.set_cons_succ]
          refine held_take (i := 12) (v := undef) 69 rfl rfl (by kernel_rfl) (by kernel_rfl) (by kernel_rfl) (fun _ _ _ h => h) (Or.inr ⟨by rfl, rfl⟩) hS ?_
          try simp only [Act.put, List.setIfInBounds_toArray, List.set_cons_zero, List.set_cons_succ]
          refine held_take (i := 13) (v := undef) 70 rfl rfl (by kernel_rfl) (by kernel_rfl) (by kernel_rfl) (fun _ _ _ h => h) (Or.inr ⟨by rfl, rfl⟩) hS ?_
          try simp only [Act.put, List.setIfInBounds_toArray, List.set_cons_zero, List.set_cons_succ]
          refine held_take (i := 14) (v := undef) 71 rfl rfl (by kernel_rfl) (by kernel_rfl) (by kernel_rfl) (fun _ _ _ h => h) (Or.inr ⟨by rfl, rfl⟩) hS ?_
          try simp only [Act.put, List.setIfInBounds_toArray, List.set_cons_zero, List.set_cons_succ]
          refine held_take (i := 15) (v := undef) 72 rfl rfl (by kernel_rfl) (by kernel_rfl) (by kernel_rfl) (fun _ _ _ h => h) (Or.inr ⟨by rfl, rfl⟩) hS ?_
          try simp only [Act.put, List.setIfInBounds_toArray, List.set_cons_zero, List.set_cons_succ]
          refine held_take (i := 16) (v := undef) 73 rfl rfl (by kernel_rfl) (by kernel_rfl) (by kernel_rfl) (fun _ _ _ h => h) (Or.inr ⟨by rfl, rfl⟩) hS ?_
          try simp only [Act.put, List.setIfInBounds_toArray, List.set_cons_zero, List.set_cons_succ]
          refine held_take (i := 17) (v := undef) 74 rfl rfl (by kernel_rfl) (by kernel_rfl) (by kernel_rfl) (fun _ _ _ h => h) (Or.inr ⟨by rfl, rfl⟩) hS ?_
          try simp only [Act.put, List.setIfInBounds_toArray, List.set_cons_zero, List.set_cons_succ]
          refine held_take (i := 18) (v := undef) 75 rfl rfl (by kernel_rfl) (by kernel_rfl) (by kernel_rfl) (fun _ _ _ h => h) (Or.inr ⟨by rfl, rfl⟩) hS ?_
          try simp only [Act.put, List.setIfInBounds_toArray, List.set_cons_zero, List.set_cons_succ]
          refine held_take (i := 19) (v := undef) 76 rfl rfl (by kernel_rfl) (by kernel_rfl) (by kernel_rfl) (fun _ _ _ h => h) (Or.inr ⟨by rfl, rfl⟩) hS ?_
          try simp only [Act.put, List.setIfInBounds_toArray, List.set_cons_zero, List.set_cons_succ]
          refine held_take (i := 20) (v := undef) 77 rfl rfl (by kernel_rfl) (by kernel_rfl) (by kernel_rfl) (fun _ _ _ h => h) (Or.inr ⟨by rfl, rfl⟩) hS ?_
          try simp only [Act.put, List.setIfInBounds_toArray, List.set_cons_zero, List.set_cons_succ]
          refine held_take (i := 21) (v := ?_) 78 rfl rfl (by kernel_rfl) (by kernel_rfl) (by kernel_rfl) (fun _ _ _ h => h) (Or.inl ⟨by rfl, ?_⟩) hS ?_
          rotate_left 1
          · intro w' hSw
            try dsimp only at hSw
            obtain ⟨q1, q2, q3, q4, q5⟩ := hSw
            go_simp
            all_goals with_reducible rfl
          try simp only [Act.put, List.setIfInBounds_toArray, List.set_cons_zero, List.set_cons_succ]
          obtain ⟨w9, hrun, hm9, hg9⟩ := hm.upd (i := k) (k := q) false (by omega) (by omega) (by unfold maxLen; omega)
          have hI9 := hI.grown hg9 hbm (by omega) (by omega)
          have hL9 : StepsL s bs l A O (some ⟨bd, od, none⟩) n c co nd cd (w2.heap.size + 1 + 1) (w2.heap.size + 1 + 1 + 1) w9 := StepsL.base hI9.2.2.2.2.2.2 hss hs hd (hL.1.grown hg9 (by simp; omega)) (hL.2.1.grown hg9 (by simp; omega))
          have hG9 : SlAt w9 (w2.heap.size + 1 + 1 + 1 + 1) 2 Bnd.cells O' n co' (encAt s bs l (k + 1)) := hG.keep hg9.size (fun p hp hlt2 => World.cell?_of_block (hg9.block p.block hlt2 (by simp; omega)))
          have hn9 := hn.trans (nc_grown hg9 (by omega))
          refine held_one (i := 22) (by kernel_rfl) rfl rfl (fun K hK => ?_)
          go_simp
          refine hK _ _ ⟨hI9.2.2.2.2.2.1.cell, hI9.2.2.2.2.1.cell, hI9.1.cell, (hI9.2.2.2.2.2.2.cell (p := ⟨bd, od + k * 4 + 2, none⟩) lbd).trans e2, (hI9.2.2.2.2.2.2.cell (p := ⟨bd, od + k * 4 + 3, none⟩) lbd).trans e3⟩ ?_
          clear hK K hrun hS hI hL hG hm hn
          refine wpAnyH_done (by kernel_rfl) ?_ _
          gi_wp2_with fail
          go_roundw
          case rel =>
            refine ⟨q + 1, by go_num, by omega, hI9, ⟨m + 1, by omega, ?_⟩, hL9, hG9, hn9⟩
            rw [← hstep.out, hkn.out, hbn.out, hbb]
            exact hm9
          case measure => simp [intOf]; omega
        | false =>
          refine held_take (i := 8) (v := ?_) 65 rfl rfl (by kernel_rfl) (by kernel_rfl) (by kernel_rfl) (fun _ _ _ h => h) (Or.inl ⟨by rfl, ?_⟩) hS ?_
          rotate_left 1
          · intro w' hSw
            try dsimp only at hSw
            obtain ⟨q1, q2, q3, q4, q5⟩ := hSw
            go_simp
            all_goals with_reducible rfl
          try simp only [Act.put, List.setIfInBounds_toArray, List.set_cons_zero, List.set_cons_succ]
          refine held_take (i := 9) (v := ?_) 66 rfl rfl (by kernel_rfl) (by kernel_rfl) (by kernel_rfl) (fun _ _ _ h => h) (Or.inl ⟨by rfl, ?_⟩) hS ?_
          rotate_left 1
          · intro w' hSw
            try dsimp only at hSw
            obtain ⟨q1, q2, q3, q4, q5⟩ := hSw
            go_simp
            all_goals with_reducible rfl
          try simp only [Act.put, List.setIfInBounds_toArray, List.set_cons_zero, List.set_cons_succ]
          refine held_take (i := 10) (v := ?_) 67 rfl rfl (by kernel_rfl) (by kernel_rfl) (by kernel_rfl) (fun _ _ _ h => h) (Or.inl ⟨by rfl, ?_⟩) hS ?_
          rotate_left 1
          · intro w' hSw
            try dsimp only at hSw
            obtain ⟨q1, q2, q3, q4, q5⟩ := hSw
            go_simp
            all_goals with_reducible rfl
          try simp only [Act.put, List.setIfInBounds_toArray, List.set_cons_zero, List.set_cons_succ]
          refine held_take (i := 11) (v := ?_) 68 rfl rfl (by kernel_rfl) (by kernel_rfl) (by kernel_rfl) (fun _ _ _ h => h) (Or.inl ⟨by rfl, ?_⟩) hS ?_
          rotate_left 1
          · intro w' hSw
            try dsimp only at hSw
            obtain ⟨q1, q2, q3, q4, q5⟩ := hSw
            go_simp
            all_goals with_reducible rfl
          try simp only [Act.put, List.setIfInBounds_toArray, List.set_cons_zero, List.set_cons_succ]
          refine held_take (i := 12) (v := ?_) 69 rfl rfl (by kernel_rfl) (by kernel_rfl) (by kernel_rfl) (fun _ _ _ h => h) (Or.inl ⟨by rfl, ?_⟩) hS ?_
          rotate_left 1
          · intro w' hSw
            try dsimp only at hSw
            obtain ⟨q1, q2, q3, q4, q5⟩ := hSw
            go_simp
            all_goals with_reducible rfl
          try simp only [Act.put, List.setIfInBounds_toArray, List.set_cons_zero, List.set_cons_succ]
          refine held_take (i := 13) (v := ?_) 70 rfl rfl (by kernel_rfl) (by kernel_rfl) (by kernel_rfl) (fun _ _ _ h => h) (Or.inl ⟨by rfl, ?_⟩) hS ?_
          rotate_left 1
          · intro w' hSw
            try dsimp only at hSw
            obtain ⟨q1, q2, q3, q4, q5⟩ := hSw
            go_simp
            all_goals with_reducible rfl
          try simp only [Act.put, List.setIfInBounds_toArray, List.set_cons_zero, List.set_cons_succ]
          refine held_take (i := 14) (v := ?_) 71 rfl rfl (by kernel_rfl) (by kernel_rfl) (by kernel_rfl) (fun _ _ _ h => h) (Or.inl ⟨by rfl, ?_⟩) hS ?_
          rotate_left 1
          · intro w' hSw
            try dsimp only at hSw
            obtain ⟨q1, q2, q3, q4, q5⟩ := hSw
            go_simp
            all_goals with_reducible rfl
          try simp only [Act.put, List.setIfInBounds_toArray, List.set_cons_zero, List.set_cons_succ]
          refine held_take (i := 15) (v := ?_) 72 rfl rfl (by kernel_rfl) (by kernel_rfl) (by kernel_rfl) (fun _ _ _ h => h) (Or.inl ⟨by rfl, ?_⟩) hS ?_
          rotate_left 1
          · intro w' hSw
            try dsimp only at hSw
            obtain ⟨q1, q2, q3, q4, q5⟩ := hSw
            go_simp
            all_goals with_reducible rfl
          try simp only [Act.put, List.setIfInBounds_toArray, List.set_cons_zero, List.set_cons_succ]
          refine held_take (i := 16) (v := ?_) 73 rfl rfl (by kernel_rfl) (by kernel_rfl) (by kernel_rfl) (fun _ _ _ h => h) (Or.inl ⟨by rfl, ?_⟩) hS ?_
          rotate_left 1
          · intro w' hSw
            try dsimp only at hSw
            obtain ⟨q1, q2, q3, q4, q5⟩ := hSw
            go_simp
            all_goals with_reducible rfl
          try simp only [Act.put, List.setIfInBounds_toArray, List.set_cons_zero, List.set_cons_succ]
          refine held_take (i := 17) (v := ?_) 74 rfl rfl (by kernel_rfl) (by kernel_rfl) (by kernel_rfl) (fun _ _ _ h => h) (Or.inl ⟨by rfl, ?_⟩) hS ?_
          rotate_left 1
          · intro w' hSw
            try dsimp only at hSw
            obtain ⟨q1, q2, q3, q4, q5⟩ := hSw
            go_simp
            all_goals with_reducible rfl
          try simp only [Act.put, List.setIfInBounds_toArray, List.set_cons_zero, List.set_cons_succ]
          refine held_take (i := 18) (v := ?_) 75 rfl rfl (by kernel_rfl) (by kernel_rfl) (by kernel_rfl) (fun _ _ _ h => h) (Or.inl ⟨by rfl, ?_⟩) hS ?_
          rotate_left 1
          · intro w' hSw
            try dsimp only at hSw
            obtain ⟨q1, q2, q3, q4, q5⟩ := hSw
            go_simp
            all_goals with_reducible rfl
          try simp only [Act.put, List.setIfInBounds_toArray, List.set_cons_zero, List.set_cons_succ]
          have hcp := pulled_any s A O' n c co' 0 _ (encAt s bs l (k + 1)) x wt.alo w5 hok.out.1 hek.out hxk.out hwk.out hL.2.2.1 hG
          obtain ⟨pb, hpb⟩ : ∃ pb, pulledS s (encAt s bs l (k + 1)) x wt.alo = pb := ⟨_, rfl⟩
          rw [hpb] at hcp
          refine held_one (i := 19) (by kernel_rfl) rfl rfl (fun K hK => ?_)
          go_simp
          refine hcp.mono ?_
          rintro e w6 ⟨rfl, hb6⟩
          clear hcp hS
          replace hI := hI.below hb6
          replace hL := hL.below hb6
          replace hG := hG.below hb6
          replace hm := hm.below hb6
          replace hn := hn.trans (nc_of_below hb6)
          clear hb6
          have hS : (fun w' : World => (∀ j, w'.cell? ⟨w2.heap.size + 1, j, none⟩ = #[Value.map (some w2.heap.size)][j]?) ∧ (∀ j, w'.cell? ⟨w1.heap.size, j, none⟩ = #[Value.int .i64 s.head, .slice A n c, .int .i64 s.lane.lo, .int .i64 s.lane.hi, .int .i64 s.bend, .slice O n co][j]?) ∧ (∀ j, w'.cell? ⟨w.heap.size + 1, j, none⟩ = #[Value.slice (some ⟨bd, od, none⟩) nd cd][j]?) ∧ w'.cell? ⟨bd, od + k * 4 + 2, none⟩ = some (.int .i64 wt.alo.lo) ∧ w'.cell? ⟨bd, od + k * 4 + 3, none⟩ = some (.int .i64 wt.alo.hi)) w6 := ⟨hI.2.2.2.2.2.1.cell, hI.2.2.2.2.1.cell, hI.1.cell, (hI.2.2.2.2.2.2.cell (p := ⟨bd, od + k * 4 + 2, none⟩) lbd).trans e2, (hI.2.2.2.2.2.2.cell (p := ⟨bd, od + k * 4 + 3, none⟩) lbd).trans e3⟩
          refine hK _ _ hS ?_
          clear hK K
          try simp only [Act.put, List.setIfInBounds_toArray, List.set_cons_zero, List.set_cons_succ]
          refine held_take (i := 20) (v := ?_) 77 rfl rfl (by kernel_rfl) (by kernel_rfl) (by kernel_rfl) (fun _ _ _ h => h) (Or.inl ⟨by rfl, ?_⟩) hS ?_
          rotate_left 1
          · intro w' hSw
            try dsimp only at hSw
            obtain ⟨q1, q2, q3, q4, q5⟩ := hSw
            go_simp
            all_goals with_reducible rfl
          try simp only [Act.put, List.setIfInBounds_toArray, List.set_cons_zero, List.set_cons_succ]
          refine held_take (i := 21) (v := ?_) 78 rfl rfl (by kernel_rfl) (by kernel_rfl) (by kernel_rfl) (fun _ _ _ h => h) (Or.inl ⟨by rfl, ?_⟩) hS ?_
          rotate_left 1
          · intro w' hSw
            try dsimp only at hSw
            obtain ⟨q1, q2, q3, q4, q5⟩ := hSw
            go_simp
            all_goals with_reducible rfl
          try simp only [Act.put, List.setIfInBounds_toArray, List.set_cons_zero, List.set_cons_succ]
          cases pb with
          | true =>
            obtain ⟨w9, hrun, hm9, hg9⟩ := hm.upd (i := k) (k := q) false (by omega) (by omega) (by unfold maxLen; omega)
            have hI9 := hI.grown hg9 hbm (by omega) (by omega)
            have hL9 : StepsL s bs l A O (some ⟨bd, od, none⟩) n c co nd cd (w2.heap.size + 1 + 1) (w2.heap.size + 1 + 1 + 1) w9 := StepsL.base hI9.2.2.2.2.2.2 hss hs hd (hL.1.grown hg9 (by simp; omega)) (hL.2.1.grown hg9 (by simp; omega))
            have hG9 : SlAt w9 (w2.heap.size + 1 + 1 + 1 + 1) 2 Bnd.cells O' n co' (encAt s bs l (k + 1)) := hG.keep hg9.size (fun p hp hlt2 => World.cell?_of_block (hg9.block p.block hlt2 (by simp; omega)))
            have hn9 := hn.trans (nc_grown hg9 (by omega))
            refine held_one (i := 22) (by kernel_rfl) rfl rfl (fun K hK => ?_)
            go_simp
            refine hK _ _ ⟨hI9.2.2.2.2.2.1.cell, hI9.2.2.2.2.1.cell, hI9.1.cell, (hI9.2.2.2.2.2.2.cell (p := ⟨bd, od + k * 4 + 2, none⟩) lbd).trans e2, (hI9.2.2.2.2.2.2.cell (p := ⟨bd, od + k * 4 + 3, none⟩) lbd).trans e3⟩ ?_
            clear hK K hrun hS hI hL hG hm hn
            refine wpAnyH_done (by kernel_rfl) ?_ _
            gi_wp2_with fail
            go_roundw
            case rel =>
              refine ⟨q + 1, by go_num, by omega, hI9, ⟨m + 1, by omega, ?_⟩, hL9, hG9, hn9⟩
              rw [← hstep.out, hkn.out, hbn.out, hbb]
              rw [hpb]; exact hm9
            case measure => simp [intOf]; omega
          | false =>
            obtain ⟨w9, hrun, hm9, hg9⟩ := hm.upd (i := k) (k := q) true (by omega) (by omega) (by unfold maxLen; omega)
            have hI9 := hI.grown hg9 hbm (by omega) (by omega)
            have hL9 : StepsL s bs l A O (some ⟨bd, od, none⟩) n c co nd cd (w2.heap.size + 1 + 1) (w2.heap.size + 1 + 1 + 1) w9 := StepsL.base hI9.2.2.2.2.2.2 hss hs hd (hL.1.grown hg9 (by simp; omega)) (hL.2.1.grown hg9 (by simp; omega))
            have hG9 : SlAt w9 (w2.heap.size + 1 + 1 + 1 + 1) 2 Bnd.cells O' n co' (encAt s bs l (k + 1)) := hG.keep hg9.size (fun p hp hlt2 => World.cell?_of_block (hg9.block p.block hlt2 (by simp; omega)))
            have hn9 := hn.trans (nc_grown hg9 (by omega))
            refine held_one (i := 22) (by kernel_rfl) rfl rfl (fun K hK => ?_)
            go_simp
            refine hK _ _ ⟨hI9.2.2.2.2.2.1.cell, hI9.2.2.2.2.1.cell, hI9.1.cell, (hI9.2.2.2.2.2.2.cell (p := ⟨bd, od + k * 4 + 2, none⟩) lbd).trans e2, (hI9.2.2.2.2.2.2.cell (p := ⟨bd, od + k * 4 + 3, none⟩) lbd).trans e3⟩ ?_
            clear hK K hrun hS hI hL hG hm hn
            refine wpAnyH_done (by kernel_rfl) ?_ _
            gi_wp2_with fail
            go_roundw
            case rel =>
              refine ⟨q + 1, by go_num, by omega, hI9, ⟨m + 1, by omega, ?_⟩, hL9, hG9, hn9⟩
              rw [← hstep.out, hkn.out, hbn.out, hbb]
              rw [hpb]; exact hm9
            case measure => simp [intOf]; omega
      · obtain rfl : q = nc := by omega
        gi_wp2_with fail
        exact ⟨hn, ⟨hI, m, by omega, by rw [← fmap_next]; exact hm⟩, hL⟩
end Go.Proofs.YtjiaepphnddpoaaGreat
namespace Go.Proofs.YtjiaepphnddpoaaGreat
open Go.RowKit Go.Shelf
set_option maxRecDepth 100000 in
set_option maxHeartbeats 1000000 in
theorem alikeB_any (A C : Option Addr) (na ca nb cb B1 B2 : Nat) (xs ys : List Bnd) (w : World) (h1 : SlAt w B1 2 Bnd.cells A na ca xs) (h2 : SlAt w B2 2 Bnd.cells C nb cb ys) :
    Calls Tryz.prog 61 #[.slice A na ca, .slice C nb cb] w fun e w' => e = .returned (.bool (decide (xs = ys))) ∧ Below w.heap.size w w' := by
  have hle := h1.le
  have hl1 := Lib.hid h1.len
  have hl2 := Lib.hid h2.len
  by_cases hn : na = nb
  · subst hn
    go_enter Tryz.func61, Tryz.ntmps61
    go_wp2
    go_loopw [5] (fun i wr => ∃ k : Nat, i = .int .i64 k ∧ k ≤ na ∧ xs.take k = ys.take k ∧ Below w.heap.size w wr) (fun i wr => na - (intOf i).toNat)
    case atStart => exact ⟨0, rfl, Nat.zero_le _, rfl, Below.refl _ _⟩
    case round =>
      obtain ⟨k, rfl, hk, ht, hb⟩ := hrel
      by_cases hlt : k < na
      · obtain ⟨x, hx⟩ := some_of_lt hl1.out hlt
        obtain ⟨y, hy⟩ := some_of_lt hl2.out hlt
        obtain ⟨b1, o1, hA1, -, -, e1, e1'⟩ := (h1.keep hb.size (fun _ _ h => hb.cell h)).bnd hx
        obtain ⟨b2, o2, hA2, -, -, e2, e2'⟩ := (h2.keep hb.size (fun _ _ h => hb.cell h)).bnd hy
        have t1 := IntWalk.i64_in ((k : Int) + 1) (by omega)
        have hk0 : (0 : Int) ≤ (k : Int) := by omega
        have hk1 : (k : Int) < (na : Int) := by omega
        replace hx := Lib.hid hx
        replace hy := Lib.hid hy
        replace ht := Lib.hid ht
        subst hA1
        subst hA2
        by_cases hxy : x = y
        · have hxy2 := Lib.hid hxy
          subst hxy
          go_wp2_with fail
          go_quiet (fail)
          go_wp2
          go_roundw
          case rel => exact ⟨k + 1, by go_num, by omega, take_succ_eq ht.out hx.out hy.out rfl, below_drewN hb _⟩
          case measure => simp [intOf]; omega
        · have hne : ¬ (x.lo = y.lo ∧ x.hi = y.hi) := fun h => hxy (by obtain ⟨a, b⟩ := x; obtain ⟨c, d⟩ := y; simp_all)
          by_cases hlo : x.lo = y.lo
          · have hhi : ¬ x.hi = y.hi := fun h => hne ⟨hlo, h⟩
            clear hne
            go_wp2_with fail
            go_quiet (fail)
            go_wp2
            go_ret
            refine ⟨ret_bool (Eq.symm (decide_eq_false fun h => ?_)), below_drewN hb _⟩
            subst h
            exact hxy (Option.some.inj (hx.out.symm.trans hy.out))
          clear hne
          go_wp2_with fail
          go_quiet (fail)
          go_wp2
          go_ret
          refine ⟨ret_bool (Eq.symm (decide_eq_false fun h => ?_)), below_drewN hb _⟩
          subst h
          exact hxy (Option.some.inj (hx.out.symm.trans hy.out))
      · obtain rfl : k = na := by omega
        go_wp2
        go_ret
        refine ⟨ret_bool (Eq.symm (decide_eq_true ?_)), hb⟩
        rw [List.take_of_length_le (by rw [hl1.out]; exact Nat.le_refl _), List.take_of_length_le (by rw [hl2.out]; exact Nat.le_refl _)] at ht
        exact ht
  · have hn' : ¬ ((na : Int) = (nb : Int)) := by omega
    go_enter Tryz.func61, Tryz.ntmps61
    go_wp2
    go_ret
    exact ⟨ret_bool (Eq.symm (decide_eq_false fun h => hn (by rw [← hl1.out, ← hl2.out, h]))), Below.refl _ _⟩
end Go.Proofs.YtjiaepphnddpoaaGreat
namespace Go.Proofs.YtjiaepphnddpoaaGreat
open Go.RowKit Go.Shelf
theorem first_any (w : World) : Calls Tryz.prog 47 #[] w fun e w' => ∃ A, e = .returned (.slice A 2 2) ∧ SlAt w' w.heap.size 2 Bnd.cells A 2 2 [⟨10, 10⟩, ⟨20, 24⟩] ∧ Below w.heap.size w w' := by
  go_enter Tryz.func47, Tryz.ntmps47
  go_wp2
  go_ret
  exact ⟨_, rfl, SlAt.of_blk (enc := Bnd.cells) (s := 2) (Blk.new w 24 #[.int .i64 10, .int .i64 10, .int .i64 20, .int .i64 24]) (fun _ => rfl) [⟨10, 10⟩, ⟨20, 24⟩] rfl (by decide), (Below.refl _ _).alloc (Nat.le_refl _) _⟩
theorem after_any (w : World) : Calls Tryz.prog 46 #[] w fun e w' => ∃ A, e = .returned (.slice A 2 2) ∧ SlAt w' w.heap.size 2 Bnd.cells A 2 2 [⟨4, 7⟩, ⟨16, 20⟩] ∧ Below w.heap.size w w' := by
  go_enter Tryz.func46, Tryz.ntmps46
  go_wp2
  go_ret
  exact ⟨_, rfl, SlAt.of_blk (enc := Bnd.cells) (s := 2) (Blk.new w 24 #[.int .i64 4, .int .i64 7, .int .i64 16, .int .i64 20]) (fun _ => rfl) [⟨4, 7⟩, ⟨16, 20⟩] rfl (by decide), (Below.refl _ _).alloc (Nat.le_refl _) _⟩
def cable0 : Strm := { head := 0, secs := [⟨100, 32, 0, 2, 5000⟩, ⟨100, 16, 5, 3, 3000⟩], lane := ⟨-20, 20⟩, bend := 30 }
set_option maxRecDepth 100000 in
theorem cable_any (w : World) : Calls Tryz.prog 42 #[] w fun e w' => ∃ A, e = .returned (.agg #[.int .i64 0, .slice A 2 2, .int .i64 (-20), .int .i64 20, .int .i64 30]) ∧ SlAt w' w.heap.size 5 Sec.cells A 2 2 cable0.secs ∧ Below w.heap.size w w' := by
  obtain ⟨wz, hwz⟩ : ∃ x, x = (w.alloc (.cells #[.int .i64 0, .slice (some ⟨w.heap.size + 1, 0, none⟩) 2 2, .int .i64 (-20), .int .i64 20, .int .i64 30] 26)).alloc (.cells #[.int .i64 100, .int .i64 32, .int .i64 0, .int .i64 2, .int .i64 5000, .int .i64 100, .int .i64 16, .int .i64 5, .int .i64 3, .int .i64 3000] 94) := ⟨_, rfl⟩
  have k0 : Blk wz w.heap.size 26 #[.int .i64 0, .slice (some ⟨w.heap.size + 1, 0, none⟩) 2 2, .int .i64 (-20), .int .i64 20, .int .i64 30] := by rw [hwz]; exact (Blk.new w _ _).alloc _
  have k1 : Blk wz (w.heap.size + 1) 94 #[.int .i64 100, .int .i64 32, .int .i64 0, .int .i64 2, .int .i64 5000, .int .i64 100, .int .i64 16, .int .i64 5, .int .i64 3, .int .i64 3000] := by
    rw [hwz]; have := Blk.new (w.alloc (.cells #[.int .i64 0, .slice (some ⟨w.heap.size + 1, 0, none⟩) 2 2, .int .i64 (-20), .int .i64 20, .int .i64 30] 26)) 94 #[.int .i64 100, .int .i64 32, .int .i64 0, .int .i64 2, .int .i64 5000, .int .i64 100, .int .i64 16, .int .i64 5, .int .i64 3, .int .i64 3000]; rwa [World.size_alloc] at this
  have b1 : Below w.heap.size w wz := by rw [hwz]; exact ((Below.refl _ _).alloc (Nat.le_refl _) _).alloc (by simp) _
  go_enter Tryz.func42, Tryz.ntmps42
  go_wp2
  rw [← hwz]
  clear hwz
  obtain ⟨c0, f0, l0⟩ := k0.rules
  exact bodyPost_ret (v := .agg #[.int .i64 0, .slice (some ⟨w.heap.size + 1, 0, none⟩) 2 2, .int .i64 (-20), .int .i64 20, .int .i64 30]) (by simp [results, Tryz.results42, go_sem, c0]) rfl
    ⟨_, rfl, (SlAt.of_blk (enc := Sec.cells) (s := 5) k1 (fun _ => rfl) cable0.secs rfl (by decide)).mono (Nat.le_succ _), b1⟩
end Go.Proofs.YtjiaepphnddpoaaGreat
namespace Go.Proofs.YtjiaepphnddpoaaGreat
open Go.RowKit Go.Shelf
set_option maxHeartbeats 400000 in
theorem rwithin_any (n lo hi : Int) (w : World) :
    Calls Tryz.prog 141 #[.int .i64 n, .int .i64 lo, .int .i64 hi] w fun e w' => e = .returned (.bool (decide (lo ≤ n ∧ n ≤ hi))) ∧ w = w' := by
  by_cases h : lo ≤ n
  · go_enter Tryz.func141, Tryz.ntmps141
    go_wp2
    go_ret
    simp [h]
  · go_enter Tryz.func141, Tryz.ntmps141
    go_wp2
    go_ret
    simp; omega
set_option maxHeartbeats 400000 in
theorem fits_any (m : Int) (b : Bnd) (w : World) (hm0 : 0 ≤ m) (hm : m ≤ 100000) :
    Calls Tryz.prog 107 #[.int .i64 m, .agg #[.int .i64 b.lo, .int .i64 b.hi]] w fun e w' => e = .returned (.bool (okBnd m b)) ∧ Below w.heap.size w w' := by
  by_cases h1 : -m ≤ b.lo
  · by_cases h2 : b.lo ≤ b.hi
    · go_enter Tryz.func107, Tryz.ntmps107
      go_wp2
      go_ret
      exact ⟨ret_bool (by simp [okBnd, h1, h2]), (Below.refl _ _).alloc (Nat.le_refl _) _⟩
    · go_enter Tryz.func107, Tryz.ntmps107
      go_wp2
      go_ret
      exact ⟨ret_bool (by simp [okBnd, h1]; omega), (Below.refl _ _).alloc (Nat.le_refl _) _⟩
  · go_enter Tryz.func107, Tryz.ntmps107
    go_wp2
    go_ret
    exact ⟨ret_bool (by simp [okBnd]; omega), (Below.refl _ _).alloc (Nat.le_refl _) _⟩
set_option maxRecDepth 100000 in
set_option maxHeartbeats 400000 in
theorem rbounds_any (r : Reg) (w : World) :
    Calls Tryz.prog 108 #[.agg #[.int .i64 r.x.lo, .int .i64 r.x.hi, .int .i64 r.y.lo, .int .i64 r.y.hi, .int .i64 r.s.lo, .int .i64 r.s.hi, .int .i64 r.d.lo, .int .i64 r.d.hi]] w fun e w' =>
      e = .returned (.agg #[.int .i64 r.x.lo, .int .i64 r.x.hi, .int .i64 r.y.lo, .int .i64 r.y.hi, .int .i64 r.s.lo, .int .i64 r.s.hi, .int .i64 r.d.lo, .int .i64 r.d.hi]) ∧ Below w.heap.size w w' := by
  obtain ⟨wz, hwz⟩ : ∃ x, x = (w.alloc (.cells #[.int .i64 r.x.lo, .int .i64 r.x.hi, .int .i64 r.y.lo, .int .i64 r.y.hi, .int .i64 r.s.lo, .int .i64 r.s.hi, .int .i64 r.d.lo, .int .i64 r.d.hi] 45)).alloc (.cells #[.int .i64 r.x.lo, .int .i64 r.x.hi, .int .i64 r.y.lo, .int .i64 r.y.hi, .int .i64 r.s.lo, .int .i64 r.s.hi, .int .i64 r.d.lo, .int .i64 r.d.hi] 171) := ⟨_, rfl⟩
  have k1 : Blk wz (w.heap.size + 1) 171 #[.int .i64 r.x.lo, .int .i64 r.x.hi, .int .i64 r.y.lo, .int .i64 r.y.hi, .int .i64 r.s.lo, .int .i64 r.s.hi, .int .i64 r.d.lo, .int .i64 r.d.hi] := by rw [hwz]; exact Blk.newAt (by simp)
  have b1 : Below w.heap.size w wz := by rw [hwz]; exact ((Below.refl _ _).alloc (Nat.le_refl _) _).alloc (by simp) _
  go_enter Tryz.func108, Tryz.ntmps108
  go_wp2
  rw [← hwz]
  clear hwz
  obtain ⟨c0, f0, l0⟩ := k1.rules
  exact bodyPost_ret (v := .agg #[.int .i64 r.x.lo, .int .i64 r.x.hi, .int .i64 r.y.lo, .int .i64 r.y.hi, .int .i64 r.s.lo, .int .i64 r.s.hi, .int .i64 r.d.lo, .int .i64 r.d.hi]) (by simp [results, Tryz.results108, go_sem, c0]) rfl ⟨rfl, b1⟩
set_option maxRecDepth 100000 in
set_option maxHeartbeats 400000 in
theorem region_any (r : Reg) (w : World) :
    Calls Tryz.prog 157 #[.agg #[.int .i64 r.x.lo, .int .i64 r.x.hi, .int .i64 r.y.lo, .int .i64 r.y.hi, .int .i64 r.s.lo, .int .i64 r.s.hi, .int .i64 r.d.lo, .int .i64 r.d.hi]] w fun e w' =>
      e = .returned (.agg #[.int .i64 r.x.lo, .int .i64 r.x.hi, .int .i64 r.y.lo, .int .i64 r.y.hi, .int .i64 r.s.lo, .int .i64 r.s.hi, .int .i64 r.d.lo, .int .i64 r.d.hi]) ∧ Below w.heap.size w w' := by
  obtain ⟨wz, hwz⟩ : ∃ x, x = (w.alloc (.cells #[.int .i64 r.x.lo, .int .i64 r.x.hi, .int .i64 r.y.lo, .int .i64 r.y.hi, .int .i64 r.s.lo, .int .i64 r.s.hi, .int .i64 r.d.lo, .int .i64 r.d.hi] 171)).alloc (.cells #[.int .i64 r.x.lo, .int .i64 r.x.hi, .int .i64 r.y.lo, .int .i64 r.y.hi, .int .i64 r.s.lo, .int .i64 r.s.hi, .int .i64 r.d.lo, .int .i64 r.d.hi] 45) := ⟨_, rfl⟩
  have k1 : Blk wz (w.heap.size + 1) 45 #[.int .i64 r.x.lo, .int .i64 r.x.hi, .int .i64 r.y.lo, .int .i64 r.y.hi, .int .i64 r.s.lo, .int .i64 r.s.hi, .int .i64 r.d.lo, .int .i64 r.d.hi] := by rw [hwz]; exact Blk.newAt (by simp)
  have b1 : Below w.heap.size w wz := by rw [hwz]; exact ((Below.refl _ _).alloc (Nat.le_refl _) _).alloc (by simp) _
  go_enter Tryz.func157, Tryz.ntmps157
  go_wp2
  rw [← hwz]
  clear hwz
  obtain ⟨c0, f0, l0⟩ := k1.rules
  exact bodyPost_ret (v := .agg #[.int .i64 r.x.lo, .int .i64 r.x.hi, .int .i64 r.y.lo, .int .i64 r.y.hi, .int .i64 r.s.lo, .int .i64 r.s.hi, .int .i64 r.d.lo, .int .i64 r.d.hi]) (by simp [results, Tryz.results157, go_sem, c0]) rfl ⟨rfl, b1⟩
def pw (j : Nat) : Int := ((2 ^ j : Nat) : Int)
theorem pw_succ (j : Nat) : pw (j + 1) = 2 * pw j := by simp [pw, Nat.pow_succ]; omega
theorem pw_pos (j : Nat) : 0 < pw j := by have := Nat.pow_pos (n := j) (show 0 < 2 by omega); simp only [pw]; omega
theorem pw_le : ∀ j, j ≤ 21 → pw j ≤ 2097152 := by decide
def rbit : Nat → Int
  | 0 => 0
  | j + 1 => pw j
theorem rbit_half (j : Nat) : pw j / 2 = rbit j := by
  cases j with
  | zero => rfl
  | succ j =>
    rw [pw_succ, Int.mul_ediv_cancel_left _ (by omega)]
    rfl
theorem root_of {n r : Int} (hr : 0 ≤ r) (h1 : r * r ≤ n) (h2 : n < (r + 1) * (r + 1)) : rootS n = r := by
  obtain ⟨m, rfl⟩ : ∃ m : Nat, r = m := ⟨r.toNat, by omega⟩
  have hm : (0 : Int) ≤ (m : Int) * m := Int.mul_nonneg (by omega) (by omega)
  obtain ⟨k, rfl⟩ : ∃ k : Nat, n = k := ⟨n.toNat, by omega⟩
  unfold rootS
  rw [Int.toNat_natCast, isq_eq (r := m) (by exact_mod_cast h1) (by exact_mod_cast h2)]
theorem sq_le {a b : Int} (h0 : 0 ≤ a) (h : a ≤ b) : a * a ≤ b * b := Int.mul_le_mul h h h0 (by omega)
set_option maxRecDepth 100000 in
set_option maxHeartbeats 1000000 in
theorem root_any (n : Int) (w : World) (h0 : 0 ≤ n) (hn : n ≤ 1099511627776) :
    Calls Tryz.prog 142 #[.int .i64 n] w fun e w' => e = .returned (.int .i64 (rootS n)) ∧ w = w' := by
  have hstart : n < (0 + pw 21) * (0 + pw 21) := Int.lt_of_le_of_lt hn (by decide)
  have hb21 : pw 20 = 1048576 := by decide
  replace hstart := Lib.hid hstart
  replace hb21 := Lib.hid hb21
  go_enter Tryz.func142, Tryz.ntmps142
  go_wp2_with fail
  go_loopw [3, 4] (fun r b wr => ∃ (j : Nat) (q : Int), r = .int .i64 q ∧ b = .int .i64 (rbit j) ∧ j ≤ 21 ∧ 0 ≤ q ∧ q * q ≤ n ∧ n < (q + pw j) * (q + pw j) ∧ wr = w) (fun r b wr => (intOf b).toNat)
  case atStart => exact ⟨21, 0, rfl, by show _ = Value.int .i64 (pw 20); rw [hb21.out], Nat.le_refl _, Int.le_refl _, by omega, hstart.out, rfl⟩
  case round =>
    obtain ⟨j, q, rfl, rfl, hj, hq, h1, h2, rfl⟩ := hrel
    have hq2 : q ≤ 1048576 := by
      rcases Int.lt_or_le 1048576 q with h | h
      · have := sq_le (show (0 : Int) ≤ 1048577 by omega) (show 1048577 ≤ q by omega); omega
      · exact h
    cases j with
    | zero =>
      have e := Lib.hid (root_of hq h1 h2)
      rw [show rbit 0 = 0 from rfl]
      clear h1 h2 hstart hb21
      go_wp2
      go_ret
      exact ⟨ret_int e.out.symm, rfl⟩
    | succ j =>
      have p0 := pw_pos j
      have p1 := pw_le j (by omega)
      have hh := Lib.hid (rbit_half j)
      have hs := pw_succ j
      rw [hs] at h2
      rw [show rbit (j + 1) = pw j from rfl]
      replace h1 := Lib.hid h1
      replace h2 := Lib.hid h2
      have hlow := Lib.hid (rbit_half j)
      generalize hP : pw j = P at *
      replace hP := Lib.hid hP
      have t1 := IntWalk.i64_in (q + P) (by omega)
      have m0 : 0 ≤ (q + P) * (q + P) := Int.mul_nonneg (by omega) (by omega)
      have m1 : (q + P) * (q + P) ≤ 4194304 * 4194304 := sq_le (by omega) (by omega)
      have t2 := IntWalk.i64_in ((q + P) * (q + P)) (by omega)
      have hrb : Hid (rbit j < P ∧ 0 ≤ rbit j) := by
        show _ ∧ _
        rw [← hh.out]
        omega
      by_cases hc : (q + P) * (q + P) ≤ n
      · go_wp2
        refine ⟨⟨j, q + P, rfl, by rw [hh.out], by omega, by omega, hc, ?_, trivial⟩, ?_⟩
        · rw [hP.out]
          have := h2.out
          rwa [show q + P + P = q + 2 * P by omega]
        · rw [hh.out]
          have := hrb.out
          simp [intOf]; omega
      · go_wp2
        refine ⟨⟨j, q, rfl, by rw [hh.out], by omega, hq, h1.out, by rw [hP.out]; omega, trivial⟩, ?_⟩
        rw [hh.out]
        have := hrb.out
        simp [intOf]; omega
set_option maxHeartbeats 400000 in
theorem Root_any (n : Int) (w : World) (h0 : 0 ≤ n) (hn : n ≤ 1099511627776) :
    Calls Tryz.prog 90 #[.int .i64 n] w fun e w' => e = .returned (.tuple #[.int .i64 (rootS n), .int .i64 0]) ∧ w = w' := by
  go_enter Tryz.func90, Tryz.ntmps90
  go_wp2_with (first | (go_at_call 141; refine (rwithin_any _ _ _ _).mono ?_; rintro e w' ⟨rfl, rfl⟩; rw [decide_eq_true ⟨h0, hn⟩]) | (go_at_call 142; refine (root_any n _ h0 hn).mono ?_; rintro e w' ⟨rfl, rfl⟩))
  go_ret2
  exact ⟨rfl, rfl⟩
end Go.Proofs.YtjiaepphnddpoaaGreat
namespace Go.Proofs.YtjiaepphnddpoaaGreat
set_option linter.unusedSimpArgs false
set_option linter.unusedVariables false
open Go.RowKit Go.Shelf
def set8 (w : World) (g : Nat) (v0 v1 v2 v3 v4 v5 v6 v7 : Value) : World :=
  (((((((w.setCell ⟨g, 0, none⟩ v0).setCell ⟨g, 1, none⟩ v1).setCell ⟨g, 2, none⟩ v2).setCell ⟨g, 3, none⟩ v3).setCell ⟨g, 4, none⟩ v4).setCell ⟨g, 5, none⟩ v5).setCell ⟨g, 6, none⟩ v6).setCell ⟨g, 7, none⟩ v7
theorem Blk.set8 {w : World} {g : Nat} {t : TypeId} {a0 a1 a2 a3 a4 a5 a6 a7 : Value} (h : Blk w g t #[a0, a1, a2, a3, a4, a5, a6, a7]) (v0 v1 v2 v3 v4 v5 v6 v7 : Value) : Blk (set8 w g v0 v1 v2 v3 v4 v5 v6 v7) g t #[v0, v1, v2, v3, v4, v5, v6, v7] := by
  have k := (((((((h.set_ 0 v0).set_ 1 v1).set_ 2 v2).set_ 3 v3).set_ 4 v4).set_ 5 v5).set_ 6 v6).set_ 7 v7
  simp only [List.setIfInBounds_toArray, List.set_cons_zero, List.set_cons_succ] at k
  exact k
theorem below_set8 {B : Nat} {w0 w : World} {g : Nat} (h : Below B w0 w) (hg : B ≤ g) (v0 v1 v2 v3 v4 v5 v6 v7 : Value) : Below B w0 (set8 w g v0 v1 v2 v3 v4 v5 v6 v7) :=
  (((((((h.setCell (p := ⟨g, 0, none⟩) hg v0).setCell (p := ⟨g, 1, none⟩) hg v1).setCell (p := ⟨g, 2, none⟩) hg v2).setCell (p := ⟨g, 3, none⟩) hg v3).setCell (p := ⟨g, 4, none⟩) hg v4).setCell (p := ⟨g, 5, none⟩) hg v5).setCell (p := ⟨g, 6, none⟩) hg v6).setCell (p := ⟨g, 7, none⟩) hg v7
theorem far_set8 {w : World} {g g' : Nat} {t : TypeId} {cs : Array Value} (h : Blk w g' t cs) (hg : g' ≠ g) (v0 v1 v2 v3 v4 v5 v6 v7 : Value) : Blk (set8 w g v0 v1 v2 v3 v4 v5 v6 v7) g' t cs :=
  (((((((h.far (p := ⟨g, 0, none⟩) hg v0).far (p := ⟨g, 1, none⟩) hg v1).far (p := ⟨g, 2, none⟩) hg v2).far (p := ⟨g, 3, none⟩) hg v3).far (p := ⟨g, 4, none⟩) hg v4).far (p := ⟨g, 5, none⟩) hg v5).far (p := ⟨g, 6, none⟩) hg v6).far (p := ⟨g, 7, none⟩) hg v7
theorem heap_set8 {g k : Nat} (w : World) (h : k ≠ g) (v0 v1 v2 v3 v4 v5 v6 v7 : Value) : (set8 w g v0 v1 v2 v3 v4 v5 v6 v7).heap[k]? = w.heap[k]? := by
  unfold set8
  repeat rw [Below.heap_setCell _ _ _ _ (by exact h)]
set_option maxRecDepth 100000 in
set_option maxHeartbeats 400000 in
theorem rspanB_any (a b : Bnd) (w : World) (h1 : -1000000 ≤ a.lo ∧ a.lo ≤ 1000000 ∧ -1000000 ≤ a.hi ∧ a.hi ≤ 1000000) (h2 : -1000000 ≤ b.lo ∧ b.lo ≤ 1000000 ∧ -1000000 ≤ b.hi ∧ b.hi ≤ 1000000) :
    Calls Tryz.prog 177 #[.agg #[.int .i64 a.lo, .int .i64 a.hi], .agg #[.int .i64 b.lo, .int .i64 b.hi]] w fun e w' => e = .returned (.agg #[.int .i64 (spanB a b).lo, .int .i64 (spanB a b).hi]) ∧ Below w.heap.size w w' := by
  go_enter Tryz.func177, Tryz.ntmps177
  go_wp2
  all_goals
    refine bodyPost_ret (v := .agg #[.int .i64 (spanB a b).lo, .int .i64 (spanB a b).hi]) (by simp [results, Tryz.results177, go_sem, spanB] <;> omega) rfl ⟨rfl, ?_⟩
    exact (((Below.refl w.heap.size w).alloc (Nat.le_refl _) _).alloc (by simp) _).alloc (by simp; omega) _
def jv : Nat → Value
  | 0 => .int .i64 0
  | 1 => .int .i64 1
  | 2 => .int .i64 2
  | 3 => .int .i64 3
  | _ => .int .i64 4
def ofCells (p : Pnt) : Nat → Array Value
  | 0 => #[.int .i64 0, .int .i64 0, .int .i64 0, .int .i64 0, .int .i64 0, .int .i64 0, .int .i64 0, .int .i64 0]
  | 1 => #[.int .i64 p.x, .int .i64 p.x, .int .i64 0, .int .i64 0, .int .i64 0, .int .i64 0, .int .i64 0, .int .i64 0]
  | 2 => #[.int .i64 p.x, .int .i64 p.x, .int .i64 p.y, .int .i64 p.y, .int .i64 0, .int .i64 0, .int .i64 0, .int .i64 0]
  | 3 => #[.int .i64 p.x, .int .i64 p.x, .int .i64 p.y, .int .i64 p.y, .int .i64 (p.x + p.y), .int .i64 (p.x + p.y), .int .i64 0, .int .i64 0]
  | _ => #[.int .i64 p.x, .int .i64 p.x, .int .i64 p.y, .int .i64 p.y, .int .i64 (p.x + p.y), .int .i64 (p.x + p.y), .int .i64 (p.x - p.y), .int .i64 (p.x - p.y)]
set_option maxRecDepth 100000 in
set_option maxHeartbeats 1000000 in
theorem of_any (p : Pnt) (w : World) (h1 : -1000000 ≤ p.x ∧ p.x ≤ 1000000 ∧ -1000000 ≤ p.y ∧ p.y ≤ 1000000) :
    Calls Tryz.prog 134 #[.agg #[.int .i64 p.x, .int .i64 p.y]] w fun e w' =>
      e = .returned (.agg #[.int .i64 (ofP p).x.lo, .int .i64 (ofP p).x.hi, .int .i64 (ofP p).y.lo, .int .i64 (ofP p).y.hi, .int .i64 (ofP p).s.lo, .int .i64 (ofP p).s.hi, .int .i64 (ofP p).d.lo, .int .i64 (ofP p).d.hi]) ∧ Below w.heap.size w w' := by
  have i0 : ∀ (a b c d : Value) w, (Instr.index 217 (.agg #[a, b, c, d]) (.int .i64 0)).run Tryz.prog w = .ok a w := fun _ _ _ _ _ => by kernel_rfl
  have i1 : ∀ (a b c d : Value) w, (Instr.index 217 (.agg #[a, b, c, d]) (.int .i64 1)).run Tryz.prog w = .ok b w := fun _ _ _ _ _ => by kernel_rfl
  have i2 : ∀ (a b c d : Value) w, (Instr.index 217 (.agg #[a, b, c, d]) (.int .i64 2)).run Tryz.prog w = .ok c w := fun _ _ _ _ _ => by kernel_rfl
  have i3 : ∀ (a b c d : Value) w, (Instr.index 217 (.agg #[a, b, c, d]) (.int .i64 3)).run Tryz.prog w = .ok d w := fun _ _ _ _ _ => by kernel_rfl
  go_enter Tryz.func134, Tryz.ntmps134
  go_wp2_with fail
  go_loopw [21] (fun j wr => ∃ k : Nat, j = jv k ∧ k ≤ 4 ∧ Blk wr (w.heap.size + 1) 171 #[.int .i64 0, .int .i64 0, .int .i64 0, .int .i64 0, .int .i64 0, .int .i64 0, .int .i64 0, .int .i64 0] ∧ Blk wr (w.heap.size + 1 + 1) 171 (ofCells p k) ∧ Below w.heap.size w wr) (fun j wr => 4 - (intOf j).toNat)
  case atStart =>
    exact ⟨0, rfl, by omega, (Blk.newAt (by simp)).alloc _, Blk.newAt (by simp), (((Below.refl w.heap.size w).alloc (Nat.le_refl _) _).alloc (by simp) _).alloc (by simp; omega) _⟩
  case round =>
    obtain ⟨k, rfl, hk, k2, k3, hb⟩ := hrel
    match k, hk with
    | 0, _ =>
      have k3n : Blk ((wr.setCell ⟨w.heap.size + 1 + 1, 0, none⟩ (.int .i64 p.x)).setCell ⟨w.heap.size + 1 + 1, 1, none⟩ (.int .i64 p.x)) (w.heap.size + 1 + 1) 171 (ofCells p (0 + 1)) := (k3.set_ 0 _).set_ 1 _
      have k2n := (k2.far (p := ⟨w.heap.size + 1 + 1, 0, none⟩) (by dsimp only; omega) (.int .i64 p.x)).far (p := ⟨w.heap.size + 1 + 1, 1, none⟩) (by dsimp only; omega) (.int .i64 p.x)
      have hbn := (hb.setCell (p := ⟨w.heap.size + 1 + 1, 0, none⟩) (by dsimp only; omega) (.int .i64 p.x)).setCell (p := ⟨w.heap.size + 1 + 1, 1, none⟩) (by dsimp only; omega) (.int .i64 p.x)
      simp only [ofCells] at k3
      simp only [jv]
      obtain ⟨c3, f3, l3⟩ := k3.rules
      go_wp2_with fail
      go_roundw
      case rel => exact ⟨0 + 1, rfl, by omega, k2n, k3n, hbn⟩
      case measure => simp [intOf]
    | 1, _ =>
      have k3n : Blk ((wr.setCell ⟨w.heap.size + 1 + 1, 2, none⟩ (.int .i64 p.y)).setCell ⟨w.heap.size + 1 + 1, 3, none⟩ (.int .i64 p.y)) (w.heap.size + 1 + 1) 171 (ofCells p (1 + 1)) := (k3.set_ 2 _).set_ 3 _
      have k2n := (k2.far (p := ⟨w.heap.size + 1 + 1, 2, none⟩) (by dsimp only; omega) (.int .i64 p.y)).far (p := ⟨w.heap.size + 1 + 1, 3, none⟩) (by dsimp only; omega) (.int .i64 p.y)
      have hbn := (hb.setCell (p := ⟨w.heap.size + 1 + 1, 2, none⟩) (by dsimp only; omega) (.int .i64 p.y)).setCell (p := ⟨w.heap.size + 1 + 1, 3, none⟩) (by dsimp only; omega) (.int .i64 p.y)
      simp only [ofCells] at k3
      simp only [jv]
      obtain ⟨c3, f3, l3⟩ := k3.rules
      go_wp2_with fail
      go_roundw
      case rel => exact ⟨1 + 1, rfl, by omega, k2n, k3n, hbn⟩
      case measure => simp [intOf]
    | 2, _ =>
      have k3n : Blk ((wr.setCell ⟨w.heap.size + 1 + 1, 4, none⟩ (.int .i64 (p.x + p.y))).setCell ⟨w.heap.size + 1 + 1, 5, none⟩ (.int .i64 (p.x + p.y))) (w.heap.size + 1 + 1) 171 (ofCells p (2 + 1)) := (k3.set_ 4 _).set_ 5 _
      have k2n := (k2.far (p := ⟨w.heap.size + 1 + 1, 4, none⟩) (by dsimp only; omega) (.int .i64 (p.x + p.y))).far (p := ⟨w.heap.size + 1 + 1, 5, none⟩) (by dsimp only; omega) (.int .i64 (p.x + p.y))
      have hbn := (hb.setCell (p := ⟨w.heap.size + 1 + 1, 4, none⟩) (by dsimp only; omega) (.int .i64 (p.x + p.y))).setCell (p := ⟨w.heap.size + 1 + 1, 5, none⟩) (by dsimp only; omega) (.int .i64 (p.x + p.y))
      simp only [ofCells] at k3
      simp only [jv]
      obtain ⟨c3, f3, l3⟩ := k3.rules
      go_wp2_with fail
      go_roundw
      case rel => exact ⟨2 + 1, rfl, by omega, k2n, k3n, hbn⟩
      case measure => simp [intOf]
    | 3, _ =>
      have k3n : Blk ((wr.setCell ⟨w.heap.size + 1 + 1, 6, none⟩ (.int .i64 (p.x - p.y))).setCell ⟨w.heap.size + 1 + 1, 7, none⟩ (.int .i64 (p.x - p.y))) (w.heap.size + 1 + 1) 171 (ofCells p (3 + 1)) := (k3.set_ 6 _).set_ 7 _
      have k2n := (k2.far (p := ⟨w.heap.size + 1 + 1, 6, none⟩) (by dsimp only; omega) (.int .i64 (p.x - p.y))).far (p := ⟨w.heap.size + 1 + 1, 7, none⟩) (by dsimp only; omega) (.int .i64 (p.x - p.y))
      have hbn := (hb.setCell (p := ⟨w.heap.size + 1 + 1, 6, none⟩) (by dsimp only; omega) (.int .i64 (p.x - p.y))).setCell (p := ⟨w.heap.size + 1 + 1, 7, none⟩) (by dsimp only; omega) (.int .i64 (p.x - p.y))
      simp only [ofCells] at k3
      simp only [jv]
      obtain ⟨c3, f3, l3⟩ := k3.rules
      go_wp2_with fail
      go_roundw
      case rel => exact ⟨3 + 1, rfl, by omega, k2n, k3n, hbn⟩
      case measure => simp [intOf]
    | 4, _ =>
      simp only [ofCells] at k3
      simp only [jv]
      obtain ⟨c3, f3, l3⟩ := k3.rules
      obtain ⟨c2, f2, l2⟩ := k2.rules
      have kz := k2.set8 (.int .i64 p.x) (.int .i64 p.x) (.int .i64 p.y) (.int .i64 p.y) (.int .i64 (p.x + p.y)) (.int .i64 (p.x + p.y)) (.int .i64 (p.x - p.y)) (.int .i64 (p.x - p.y))
      have bz := below_set8 (g := w.heap.size + 1) hb (by omega) (.int .i64 p.x) (.int .i64 p.x) (.int .i64 p.y) (.int .i64 p.y) (.int .i64 (p.x + p.y)) (.int .i64 (p.x + p.y)) (.int .i64 (p.x - p.y)) (.int .i64 (p.x - p.y))
      obtain ⟨wz, hwz⟩ : ∃ x, x = set8 wr (w.heap.size + 1) (.int .i64 p.x) (.int .i64 p.x) (.int .i64 p.y) (.int .i64 p.y) (.int .i64 (p.x + p.y)) (.int .i64 (p.x + p.y)) (.int .i64 (p.x - p.y)) (.int .i64 (p.x - p.y)) := ⟨_, rfl⟩
      rw [← hwz] at kz bz
      simp only [set8] at hwz
      go_wp2
      rw [← hwz]
      clear hwz c2 f2 l2
      obtain ⟨c2, f2, l2⟩ := kz.rules
      exact bodyPost_ret (v := .agg #[.int .i64 p.x, .int .i64 p.x, .int .i64 p.y, .int .i64 p.y, .int .i64 (p.x + p.y), .int .i64 (p.x + p.y), .int .i64 (p.x - p.y), .int .i64 (p.x - p.y)]) (by simp [results, Tryz.results134, go_sem, c2]) rfl ⟨rfl, bz⟩
end Go.Proofs.YtjiaepphnddpoaaGreat
namespace Go.Proofs.YtjiaepphnddpoaaGreat
open Go.RowKit Go.Shelf
def midB (b : Bnd) : Prop := -1000000 ≤ b.lo ∧ b.lo ≤ 1000000 ∧ -1000000 ≤ b.hi ∧ b.hi ≤ 1000000
def midR (r : Reg) : Prop := midB r.x ∧ midB r.y ∧ midB r.s ∧ midB r.d
def OpB (g : Nat) (f : Bnd → Bnd → Bnd) : Prop :=
  ∀ (W : World) (a b : Bnd), midB a → midB b → Calls Tryz.prog g #[.agg #[.int .i64 a.lo, .int .i64 a.hi], .agg #[.int .i64 b.lo, .int .i64 b.hi]] W fun e w' => e = .returned (.agg #[.int .i64 (f a b).lo, .int .i64 (f a b).hi]) ∧ Below W.heap.size W w'
theorem op_spanB : OpB 177 spanB := fun W a b h1 h2 => rspanB_any a b W h1 h2
theorem eg_spanB : Enters Tryz.prog 177 := enters_of Tryz.func177 (by kernel_rfl) rfl
def regA (r : Reg) : Array Value := #[.int .i64 r.x.lo, .int .i64 r.x.hi, .int .i64 r.y.lo, .int .i64 r.y.hi, .int .i64 r.s.lo, .int .i64 r.s.hi, .int .i64 r.d.lo, .int .i64 r.d.hi]
def combK (f : Bnd → Bnd → Bnd) (a b : Reg) : Nat → Reg
  | 0 => a
  | 1 => { a with x := f a.x b.x }
  | 2 => { a with x := f a.x b.x, y := f a.y b.y }
  | 3 => { a with x := f a.x b.x, y := f a.y b.y, s := f a.s b.s }
  | _ => zipR f a b
set_option maxRecDepth 100000 in
set_option maxHeartbeats 2000000 in
theorem combined_any (a b : Reg) (f : Bnd → Bnd → Bnd) (g : Nat) (w : World) (eg : ∀ args w, (callFunc g args).run Tryz.prog w = .ok (.enter g args) w) (ha : midR a) (hb0 : midR b) (hop : OpB g f) :
    Calls Tryz.prog 133 #[.agg (regA a), .agg (regA b), .func (.func g) #[] #[]] w fun e w' =>
      e = .returned (.agg (regA (zipR f a b))) ∧ Below w.heap.size w w' := by
  replace hop := Lib.hid hop
  replace ha := Lib.hid ha
  replace hb0 := Lib.hid hb0
  simp only [regA]
  go_enter Tryz.func133, Tryz.ntmps133
  go_wp2_with fail
  go_loopw [8] (fun j wr => ∃ k : Nat, j = jv k ∧ k ≤ 4 ∧ Blk wr w.heap.size 171 (regA (combK f a b k)) ∧ Blk wr (w.heap.size + 1) 171 (regA b) ∧ Blk wr (w.heap.size + 1 + 1) 171 #[.int .i64 0, .int .i64 0, .int .i64 0, .int .i64 0, .int .i64 0, .int .i64 0, .int .i64 0, .int .i64 0] ∧ Below w.heap.size w wr) (fun j wr => 4 - (intOf j).toNat)
  case atStart =>
    exact ⟨0, rfl, by omega, ((Blk.newAt rfl).alloc _).alloc _, (Blk.newAt (by simp)).alloc _, Blk.newAt (by simp), (((Below.refl w.heap.size w).alloc (Nat.le_refl _) _).alloc (by simp) _).alloc (by simp; omega) _⟩
  case round =>
    obtain ⟨k, rfl, hk, k3, k4, k6, hb⟩ := hrel
    match k, hk with
    | 0, _ =>
      have hcall := fun W => hop.out W a.x b.x ha.out.1 hb0.out.1
      simp only [combK, regA] at k3
      simp only [regA] at k4
      rw [show jv 0 = .int .i64 0 from rfl]
      obtain ⟨c3, f3, l3⟩ := k3.rules
      obtain ⟨c4, f4, l4⟩ := k4.rules
      go_wp2_with fail
      go_region_with (first | (go_at_fn g; refine (hcall _).mono ?_; rintro e w' ⟨rfl, hbx⟩; replace hbx := below_of_drew hbx; have k3x := k3.below hbx; clear c3 f3 l3 c4 f4 l4; obtain ⟨c3, f3, l3⟩ := k3x.rules))
      all_goals
        clear c3 f3 l3
        have b2 := hb.trans (hbx.mono hb.size)
        have k4x := k4.below hbx
        have k6x := k6.below hbx
        go_wp2_with fail
        go_roundw
        case rel => exact ⟨0 + 1, rfl, by omega, (k3x.set_ 0 _).set_ 1 _, (k4x.far (by dsimp only; omega) _).far (by dsimp only; omega) _, (k6x.far (by dsimp only; omega) _).far (by dsimp only; omega) _, (b2.setCell (p := ⟨w.heap.size, 0, none⟩) (Nat.le_refl _) _).setCell (p := ⟨w.heap.size, 1, none⟩) (Nat.le_refl _) _⟩
        case measure => simp [intOf]
    | 1, _ =>
      have hcall := fun W => hop.out W a.y b.y ha.out.2.1 hb0.out.2.1
      simp only [combK, regA] at k3
      simp only [regA] at k4
      rw [show jv 1 = .int .i64 1 from rfl]
      obtain ⟨c3, f3, l3⟩ := k3.rules
      obtain ⟨c4, f4, l4⟩ := k4.rules
      go_wp2_with fail
      go_region_with (first | (go_at_fn g; refine (hcall _).mono ?_; rintro e w' ⟨rfl, hbx⟩; replace hbx := below_of_drew hbx; have k3x := k3.below hbx; clear c3 f3 l3 c4 f4 l4; obtain ⟨c3, f3, l3⟩ := k3x.rules))
      all_goals
        clear c3 f3 l3
        have b2 := hb.trans (hbx.mono hb.size)
        have k4x := k4.below hbx
        have k6x := k6.below hbx
        go_wp2_with fail
        go_roundw
        case rel => exact ⟨1 + 1, rfl, by omega, (k3x.set_ 2 _).set_ 3 _, (k4x.far (by dsimp only; omega) _).far (by dsimp only; omega) _, (k6x.far (by dsimp only; omega) _).far (by dsimp only; omega) _, (b2.setCell (p := ⟨w.heap.size, 2, none⟩) (Nat.le_refl _) _).setCell (p := ⟨w.heap.size, 3, none⟩) (Nat.le_refl _) _⟩
        case measure => simp [intOf]
    | 2, _ =>
      have hcall := fun W => hop.out W a.s b.s ha.out.2.2.1 hb0.out.2.2.1
      simp only [combK, regA] at k3
      simp only [regA] at k4
      rw [show jv 2 = .int .i64 2 from rfl]
      obtain ⟨c3, f3, l3⟩ := k3.rules
      obtain ⟨c4, f4, l4⟩ := k4.rules
      go_wp2_with fail
      go_region_with (first | (go_at_fn g; refine (hcall _).mono ?_; rintro e w' ⟨rfl, hbx⟩; replace hbx := below_of_drew hbx; have k3x := k3.below hbx; clear c3 f3 l3 c4 f4 l4; obtain ⟨c3, f3, l3⟩ := k3x.rules))
      all_goals
        clear c3 f3 l3
        have b2 := hb.trans (hbx.mono hb.size)
        have k4x := k4.below hbx
        have k6x := k6.below hbx
        go_wp2_with fail
        go_roundw
        case rel => exact ⟨2 + 1, rfl, by omega, (k3x.set_ 4 _).set_ 5 _, (k4x.far (by dsimp only; omega) _).far (by dsimp only; omega) _, (k6x.far (by dsimp only; omega) _).far (by dsimp only; omega) _, (b2.setCell (p := ⟨w.heap.size, 4, none⟩) (Nat.le_refl _) _).setCell (p := ⟨w.heap.size, 5, none⟩) (Nat.le_refl _) _⟩
        case measure => simp [intOf]
    | 3, _ =>
      have hcall := fun W => hop.out W a.d b.d ha.out.2.2.2 hb0.out.2.2.2
      simp only [combK, regA] at k3
      simp only [regA] at k4
      rw [show jv 3 = .int .i64 3 from rfl]
      obtain ⟨c3, f3, l3⟩ := k3.rules
      obtain ⟨c4, f4, l4⟩ := k4.rules
      go_wp2_with fail
      go_region_with (first | (go_at_fn g; refine (hcall _).mono ?_; rintro e w' ⟨rfl, hbx⟩; replace hbx := below_of_drew hbx; have k3x := k3.below hbx; clear c3 f3 l3 c4 f4 l4; obtain ⟨c3, f3, l3⟩ := k3x.rules))
      all_goals
        clear c3 f3 l3
        have b2 := hb.trans (hbx.mono hb.size)
        have k4x := k4.below hbx
        have k6x := k6.below hbx
        go_wp2_with fail
        go_roundw
        case rel => exact ⟨3 + 1, rfl, by omega, (k3x.set_ 6 _).set_ 7 _, (k4x.far (by dsimp only; omega) _).far (by dsimp only; omega) _, (k6x.far (by dsimp only; omega) _).far (by dsimp only; omega) _, (b2.setCell (p := ⟨w.heap.size, 6, none⟩) (Nat.le_refl _) _).setCell (p := ⟨w.heap.size, 7, none⟩) (Nat.le_refl _) _⟩
        case measure => simp [intOf]
    | 4, _ =>
      simp only [combK, regA] at k3
      rw [show jv 4 = .int .i64 4 from rfl]
      obtain ⟨c3, f3, l3⟩ := k3.rules
      obtain ⟨c6, f6, l6⟩ := k6.rules
      have kz := k6.set8 (.int .i64 (zipR f a b).x.lo) (.int .i64 (zipR f a b).x.hi) (.int .i64 (zipR f a b).y.lo) (.int .i64 (zipR f a b).y.hi) (.int .i64 (zipR f a b).s.lo) (.int .i64 (zipR f a b).s.hi) (.int .i64 (zipR f a b).d.lo) (.int .i64 (zipR f a b).d.hi)
      have bz := below_set8 (g := w.heap.size + 1 + 1) hb (by omega) (.int .i64 (zipR f a b).x.lo) (.int .i64 (zipR f a b).x.hi) (.int .i64 (zipR f a b).y.lo) (.int .i64 (zipR f a b).y.hi) (.int .i64 (zipR f a b).s.lo) (.int .i64 (zipR f a b).s.hi) (.int .i64 (zipR f a b).d.lo) (.int .i64 (zipR f a b).d.hi)
      obtain ⟨wz, hwz⟩ : ∃ x, x = set8 wr (w.heap.size + 1 + 1) (.int .i64 (zipR f a b).x.lo) (.int .i64 (zipR f a b).x.hi) (.int .i64 (zipR f a b).y.lo) (.int .i64 (zipR f a b).y.hi) (.int .i64 (zipR f a b).s.lo) (.int .i64 (zipR f a b).s.hi) (.int .i64 (zipR f a b).d.lo) (.int .i64 (zipR f a b).d.hi) := ⟨_, rfl⟩
      rw [← hwz] at kz bz
      simp only [set8] at hwz
      go_wp2
      rw [← hwz]
      clear hwz c6 f6 l6
      obtain ⟨c6, f6, l6⟩ := kz.rules
      exact bodyPost_ret (v := .agg #[.int .i64 (zipR f a b).x.lo, .int .i64 (zipR f a b).x.hi, .int .i64 (zipR f a b).y.lo, .int .i64 (zipR f a b).y.hi, .int .i64 (zipR f a b).s.lo, .int .i64 (zipR f a b).s.hi, .int .i64 (zipR f a b).d.lo, .int .i64 (zipR f a b).d.hi]) (by simp [results, Tryz.results133, go_sem, c6]) rfl ⟨rfl, bz⟩
end Go.Proofs.YtjiaepphnddpoaaGreat
