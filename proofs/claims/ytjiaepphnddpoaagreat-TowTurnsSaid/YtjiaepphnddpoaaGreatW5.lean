/-
  Walks, fifth part: the bounds after a step.
-/
import Derived.Test.YtjiaepphnddpoaaGreatW4
namespace Go.Proofs.YtjiaepphnddpoaaGreat
open Go.RowKit Go.Shelf

/-! enclosed$1: both ends of the bound after a step -/
theorem boxes_keep {w w' : World} {g3 g6 g7 g4 : Nat} {a b c d : Array Value}
    (h : (∀ i, w.cell? ⟨g3, i, none⟩ = a[i]?) ∧ (∀ i, w.cell? ⟨g6, i, none⟩ = b[i]?) ∧ (∀ i, w.cell? ⟨g7, i, none⟩ = c[i]?) ∧ (∀ i, w.cell? ⟨g4, i, none⟩ = d[i]?) ∧ g3 < w.heap.size ∧ g6 < w.heap.size ∧ g7 < w.heap.size ∧ g4 < w.heap.size)
    (hb : Below w.heap.size w w') :
    (∀ i, w'.cell? ⟨g3, i, none⟩ = a[i]?) ∧ (∀ i, w'.cell? ⟨g6, i, none⟩ = b[i]?) ∧ (∀ i, w'.cell? ⟨g7, i, none⟩ = c[i]?) ∧ (∀ i, w'.cell? ⟨g4, i, none⟩ = d[i]?) ∧ g3 < w'.heap.size ∧ g6 < w'.heap.size ∧ g7 < w'.heap.size ∧ g4 < w'.heap.size := by
  obtain ⟨h1, h2, h3, h4, l1, l2, l3, l4⟩ := h
  have := hb.size
  exact ⟨fun i => (hb.cell (p := ⟨g3, i, none⟩) l1).trans (h1 i), fun i => (hb.cell (p := ⟨g6, i, none⟩) l2).trans (h2 i), fun i => (hb.cell (p := ⟨g7, i, none⟩) l3).trans (h3 i), fun i => (hb.cell (p := ⟨g4, i, none⟩) l4).trans (h4 i), by omega, by omega, by omega, by omega⟩
theorem boxes_set {w : World} {g3 g6 g7 g4 : Nat} {a b c d : Array Value}
    (h : (∀ i, w.cell? ⟨g3, i, none⟩ = a[i]?) ∧ (∀ i, w.cell? ⟨g6, i, none⟩ = b[i]?) ∧ (∀ i, w.cell? ⟨g7, i, none⟩ = c[i]?) ∧ (∀ i, w.cell? ⟨g4, i, none⟩ = d[i]?) ∧ g3 < w.heap.size ∧ g6 < w.heap.size ∧ g7 < w.heap.size ∧ g4 < w.heap.size)
    (p : Addr) (u : Value) (n1 : g3 < p.block) (n2 : g6 < p.block) (n3 : g7 < p.block) (n4 : g4 < p.block) :
    (∀ i, (w.setCell p u).cell? ⟨g3, i, none⟩ = a[i]?) ∧ (∀ i, (w.setCell p u).cell? ⟨g6, i, none⟩ = b[i]?) ∧ (∀ i, (w.setCell p u).cell? ⟨g7, i, none⟩ = c[i]?) ∧ (∀ i, (w.setCell p u).cell? ⟨g4, i, none⟩ = d[i]?) ∧ g3 < (w.setCell p u).heap.size ∧ g6 < (w.setCell p u).heap.size ∧ g7 < (w.setCell p u).heap.size ∧ g4 < (w.setCell p u).heap.size := by
  obtain ⟨h1, h2, h3, h4, l1, l2, l3, l4⟩ := h
  have e : (w.setCell p u).heap.size = w.heap.size := by simp [World.setCell]
  have o : ∀ (g i : Nat), g < p.block → (w.setCell p u).cell? ⟨g, i, none⟩ = w.cell? ⟨g, i, none⟩ := fun g i hg => World.cell?_setCell_other w p ⟨g, i, none⟩ u (fun e => by subst e; simp at hg)
  exact ⟨fun i => (o g3 i n1).trans (h1 i), fun i => (o g6 i n2).trans (h2 i), fun i => (o g7 i n3).trans (h3 i), fun i => (o g4 i n4).trans (h4 i), by omega, by omega, by omega, by omega⟩
set_option maxRecDepth 100000 in
set_option maxHeartbeats 1000000 in
theorem enclosed1_any (s : Strm) (A : Option Addr) (n c B i gs gd : Nat) (d own bef : Bnd) (w : World) (hs : SlAt w B 5 Sec.cells A n c s.secs) (ho : okStrm s = true) (hd : okBnd 100 d = true)
    (ks : Blk w gs 102 #[.int .i64 s.head, .slice A n c, .int .i64 s.lane.lo, .int .i64 s.lane.hi, .int .i64 s.bend]) (kd : Blk w gd 24 #[.int .i64 d.lo, .int .i64 d.hi]) (hi : i < n) (h1 : okB own) (h2 : okB bef) :
    Calls Tryz.prog 145 #[.int .i64 (i : Int), .agg #[.int .i64 own.lo, .int .i64 own.hi], .agg #[.int .i64 bef.lo, .int .i64 bef.hi], .pointer (some ⟨gs, 0, none⟩), .pointer (some ⟨gd, 0, none⟩)] w fun e w' => e = .returned (.agg #[.int .i64 (encB s d i own bef).lo, .int .i64 (encB s d i own bef).hi]) ∧ Below w.heap.size w w' := by
  have i0 : ∀ w, (Instr.index 200 (.agg #[.func (.func 146) #[] #[], .func (.func 147) #[] #[]]) (.int .i64 0)).run Tryz.prog w = .ok (.func (.func 146) #[] #[]) w := fun _ => by kernel_rfl
  have i1 : ∀ w, (Instr.index 200 (.agg #[.func (.func 146) #[] #[], .func (.func 147) #[] #[]]) (.int .i64 1)).run Tryz.prog w = .ok (.func (.func 147) #[] #[]) w := fun _ => by kernel_rfl
  go_enter Tryz.func145, Tryz.ntmps145
  have hds := of_decide_eq_true (p := -100 ≤ d.lo ∧ d.lo ≤ d.hi ∧ d.hi ≤ 100) hd
  obtain ⟨hd1, hd2, hd3⟩ := hds
  obtain ⟨p1, p2, p3⟩ := h1
  obtain ⟨p4, p5, p6⟩ := h2
  replace ho := Lib.hid ho
  clear hd
  have hzl : Hid (eased s (s.sec i) own.lo bef.lo d.lo = (encB s d i own bef).lo) := rfl
  have hzh : Hid (eased s (s.sec i) own.hi bef.hi d.hi = (encB s d i own bef).hi) := rfl
  generalize (encB s d i own bef).lo = zl at *
  generalize (encB s d i own bef).hi = zh at *
  go_wp2_with fail
  go_loopw [13] (fun j wr => ((j = .int .i64 0 ∧ Blk wr (w.heap.size + 1 + 1 + 1) 69 #[.int .i64 0, .int .i64 0]) ∨ (j = .int .i64 1 ∧ Blk wr (w.heap.size + 1 + 1 + 1) 69 #[.int .i64 zl, .int .i64 0]) ∨ (j = .int .i64 2 ∧ Blk wr (w.heap.size + 1 + 1 + 1) 69 #[.int .i64 zl, .int .i64 zh])) ∧
      Blk wr w.heap.size 24 #[.int .i64 own.lo, .int .i64 own.hi] ∧ Blk wr (w.heap.size + 1) 24 #[.int .i64 bef.lo, .int .i64 bef.hi] ∧ Blk wr (w.heap.size + 1 + 1) 24 #[.int .i64 0, .int .i64 0] ∧ Below w.heap.size w wr) (fun j wr => 2 - (intOf j).toNat)
  case atStart =>
    refine ⟨.inl ⟨rfl, ?_⟩, ?_, ?_, ?_, ?_⟩
    · have := Blk.new (((w.alloc (.cells #[.int .i64 own.lo, .int .i64 own.hi] 24)).alloc (.cells #[.int .i64 bef.lo, .int .i64 bef.hi] 24)).alloc (.cells #[.int .i64 0, .int .i64 0] 24)) 69 #[.int .i64 0, .int .i64 0]
      simpa using this
    · exact (((Blk.new w _ _).alloc _).alloc _).alloc _
    · have := ((Blk.new (w.alloc (.cells #[.int .i64 own.lo, .int .i64 own.hi] 24)) 24 #[.int .i64 bef.lo, .int .i64 bef.hi]).alloc (.cells #[.int .i64 0, .int .i64 0] 24)).alloc (.cells #[.int .i64 0, .int .i64 0] 69)
      simpa using this
    · have := (Blk.new ((w.alloc (.cells #[.int .i64 own.lo, .int .i64 own.hi] 24)).alloc (.cells #[.int .i64 bef.lo, .int .i64 bef.hi] 24)) 24 #[.int .i64 0, .int .i64 0]).alloc (.cells #[.int .i64 0, .int .i64 0] 69)
      simpa using this
    · exact ((((Below.refl _ _).alloc (Nat.le_refl _) _).alloc (by simp) _).alloc (by simp; omega) _).alloc (by simp; omega) _
  case round =>
    obtain ⟨hj, k6, k7, k8, hb⟩ := hrel
    have ks' := ks.belowB hb ks.lt
    have kd' := kd.belowB hb kd.lt
    have lS := ks.lt
    have lD := kd.lt
    rcases hj with ⟨rfl, k9⟩ | ⟨rfl, k9⟩ | ⟨rfl, k9⟩
    · go_wp2_with fail
      obtain ⟨c3, f3, l3⟩ := ks'.rules
      obtain ⟨c4, f4, l4⟩ := kd'.rules
      obtain ⟨c6, f6, l6⟩ := k6.rules
      obtain ⟨c7, f7, l7⟩ := k7.rules
      go_region_held3 (fun w' => (∀ i, w'.cell? ⟨gs, i, none⟩ = #[Value.int .i64 s.head, .slice A n c, .int .i64 s.lane.lo, .int .i64 s.lane.hi, .int .i64 s.bend][i]?) ∧ (∀ i, w'.cell? ⟨w.heap.size, i, none⟩ = #[Value.int .i64 own.lo, .int .i64 own.hi][i]?) ∧ (∀ i, w'.cell? ⟨w.heap.size + 1, i, none⟩ = #[Value.int .i64 bef.lo, .int .i64 bef.hi][i]?) ∧ (∀ i, w'.cell? ⟨gd, i, none⟩ = #[Value.int .i64 d.lo, .int .i64 d.hi][i]?) ∧ gs < w'.heap.size ∧ w.heap.size < w'.heap.size ∧ w.heap.size + 1 < w'.heap.size ∧ gd < w'.heap.size)
        (first | (with_reducible exact boxes_set (by assumption) _ _ (by dsimp only; omega) (by dsimp only; omega) (by dsimp only; omega) (by dsimp only; omega)) | (with_reducible exact boxes_keep (by assumption) hbx) | (with_reducible exact ⟨c3, c6, c7, c4, l3, l6, l7, l4⟩) | exact ⟨c3, c6, c7, c4, l3, l6, l7, l4⟩ | go_keep)
        (first | (go_at_call 146; refine (endslo_any _ _).mono ?_; rintro e w' ⟨rfl, hbx⟩; (first | (have b9x := b9x.trans (hbx.mono b9x.size)) | (have b9x := below_of_drew hbx))) | (go_at_call 98; have bwx := hb.trans (b9x.mono hb.size); have hsx := hs.keep bwx.size (fun _ _ h => bwx.cell h); refine (eased_any s A n c B i _ _ _ _ hsx ho.out hi (by omega) (by omega) (by omega) (by omega) (by omega) (by omega)).mono ?_; rintro e w' ⟨rfl, hbx⟩; have b9y := b9x.trans (hbx.mono b9x.size); have k9y := k9.below b9y; obtain ⟨c9, f9, l9⟩ := k9y.rules))
      have k6y := k6.below b9y
      have k7y := k7.below b9y
      have k8y := k8.below b9y
      have hby := hb.trans (b9y.mono hb.size)
      rw [hzl.out] at *
      clear c3 f3 l3 c4 f4 l4 c6 f6 l6 c7 f7 l7 c9 f9 l9
      go_wp2
      go_roundw
      case rel =>
        have hk9 := k9y.set_ 0 (.int .i64 zl)
        refine ⟨.inr (.inl ⟨rfl, hk9⟩), k6y.far (by dsimp only; omega) _, k7y.far (by dsimp only; omega) _, k8y.far (by dsimp only; omega) _, hby.setCell (p := ⟨w.heap.size + 1 + 1 + 1, 0, none⟩) (by dsimp only; omega) _⟩
      case measure => simp [intOf]
    · go_wp2_with fail
      obtain ⟨c3, f3, l3⟩ := ks'.rules
      obtain ⟨c4, f4, l4⟩ := kd'.rules
      obtain ⟨c6, f6, l6⟩ := k6.rules
      obtain ⟨c7, f7, l7⟩ := k7.rules
      go_region_held3 (fun w' => (∀ i, w'.cell? ⟨gs, i, none⟩ = #[Value.int .i64 s.head, .slice A n c, .int .i64 s.lane.lo, .int .i64 s.lane.hi, .int .i64 s.bend][i]?) ∧ (∀ i, w'.cell? ⟨w.heap.size, i, none⟩ = #[Value.int .i64 own.lo, .int .i64 own.hi][i]?) ∧ (∀ i, w'.cell? ⟨w.heap.size + 1, i, none⟩ = #[Value.int .i64 bef.lo, .int .i64 bef.hi][i]?) ∧ (∀ i, w'.cell? ⟨gd, i, none⟩ = #[Value.int .i64 d.lo, .int .i64 d.hi][i]?) ∧ gs < w'.heap.size ∧ w.heap.size < w'.heap.size ∧ w.heap.size + 1 < w'.heap.size ∧ gd < w'.heap.size)
        (first | (with_reducible exact boxes_set (by assumption) _ _ (by dsimp only; omega) (by dsimp only; omega) (by dsimp only; omega) (by dsimp only; omega)) | (with_reducible exact boxes_keep (by assumption) hbx) | (with_reducible exact ⟨c3, c6, c7, c4, l3, l6, l7, l4⟩) | exact ⟨c3, c6, c7, c4, l3, l6, l7, l4⟩ | go_keep)
        (first | (go_at_call 147; refine (endshi_any _ _).mono ?_; rintro e w' ⟨rfl, hbx⟩; (first | (have b9x := b9x.trans (hbx.mono b9x.size)) | (have b9x := below_of_drew hbx))) | (go_at_call 98; have bwx := hb.trans (b9x.mono hb.size); have hsx := hs.keep bwx.size (fun _ _ h => bwx.cell h); refine (eased_any s A n c B i _ _ _ _ hsx ho.out hi (by omega) (by omega) (by omega) (by omega) (by omega) (by omega)).mono ?_; rintro e w' ⟨rfl, hbx⟩; have b9y := b9x.trans (hbx.mono b9x.size); have k9y := k9.below b9y; obtain ⟨c9, f9, l9⟩ := k9y.rules))
      have k6y := k6.below b9y
      have k7y := k7.below b9y
      have k8y := k8.below b9y
      have hby := hb.trans (b9y.mono hb.size)
      rw [hzh.out] at *
      clear c3 f3 l3 c4 f4 l4 c6 f6 l6 c7 f7 l7 c9 f9 l9
      go_wp2
      go_roundw
      case rel =>
        have hk9 := k9y.set_ 1 (.int .i64 zh)
        refine ⟨.inr (.inr ⟨rfl, hk9⟩), k6y.far (by dsimp only; omega) _, k7y.far (by dsimp only; omega) _, k8y.far (by dsimp only; omega) _, hby.setCell (p := ⟨w.heap.size + 1 + 1 + 1, 1, none⟩) (by dsimp only; omega) _⟩
      case measure => simp [intOf]
    · obtain ⟨c8, f8, l8⟩ := k8.rules
      obtain ⟨c9, f9, l9⟩ := k9.rules
      go_wp2
      refine bodyPost_ret (v := .agg #[.int .i64 zl, .int .i64 zh]) (by simp [results, Tryz.results145, go_sem, c8]) rfl ⟨rfl, (hb.setCell (p := ⟨w.heap.size + 1 + 1, 0, none⟩) (by dsimp only; omega) _).setCell (p := ⟨w.heap.size + 1 + 1, 1, none⟩) (by dsimp only; omega) _⟩
theorem eg_enclosed1 : Enters Tryz.prog 145 := enters_of Tryz.func145 (by kernel_rfl) rfl
set_option maxRecDepth 100000 in
set_option maxHeartbeats 1000000 in
theorem enclosed_any (s : Strm) (A O : Option Addr) (n c no co B1 B : Nat) (l : List Bnd) (d : Bnd) (w : World) (ho : okStrm s = true) (hl : okOffs s l = true) (hd : okBnd 100 d = true) (hss : SlAt w B1 5 Sec.cells A n c s.secs) (hs : SlAt w B 2 Bnd.cells O no co l) :
    Calls Tryz.prog 94 #[.agg #[.int .i64 s.head, .slice A n c, .int .i64 s.lane.lo, .int .i64 s.lane.hi, .int .i64 s.bend], .slice O no co, .agg #[.int .i64 d.lo, .int .i64 d.hi]] w (OwnBnds w no (encL s l d)) := by
  have hh := Lib.hid (ok_head ho)
  have hll := Lib.hid (okOffs_len hl)
  replace ho := Lib.hid ho
  replace hl := Lib.hid (okOffs_all hl)
  replace hd := Lib.hid hd
  go_enter Tryz.func94, Tryz.ntmps94
  go_wp2_with fail
  refine (still_any s.head _).mono ?_; rintro e w1 ⟨rfl, hb1⟩
  have k3 := ((Blk.new w _ _).alloc _).below hb1
  have k5 := (Blk.new _ _ _).below hb1
  rw [World.size_alloc] at k5
  have b1 := (((Below.refl w.heap.size w).alloc (Nat.le_refl _) _).alloc (by simp) _).trans (hb1.mono (by simp; omega))
  have hss1 := ((hss.alloc _).alloc _).below hb1
  have hs1 := ((hs.alloc _).alloc _).below hb1
  go_wp2_with fail
  have hfn : FnBnd 145 #[.pointer (some ⟨w.heap.size, 0, none⟩), .pointer (some ⟨w.heap.size + 1, 0, none⟩)] (encB s d) l (still s.head) w1 := by
    intro W i hb hi
    exact enclosed1_any s A n c B1 i w.heap.size (w.heap.size + 1) d _ _ W (hss1.below hb) ho.out hd.out (k3.below hb) (k5.below hb) (by have := hll.out; have := hss.len; omega) (okB_of hl.out (okB_still hh.out) i) (okB_prev hl.out (okB_still hh.out) i)
  refine (eachbnd_any _ l (still s.head) O no co B _ _ eg_enclosed1 w1 hfn hs1).mono ?_
  rintro e w2 ⟨O', co', rfl, hown, hr, hb2⟩
  clear k3 k5
  go_wp2
  go_ret
  exact OwnBnds.lift ⟨O', co', rfl, hown, hr, hb2⟩ b1

/-- What checked hands back: the streamer, or a zero one and the error. -/
def RetLine (s : Strm) (A : Option Addr) (n c : Nat) (er : Int) (w : World) (e : Ending) (w' : World) : Prop :=
  (er = 0 → e = .returned (.tuple #[.agg #[.int .i64 s.head, .slice A n c, .int .i64 s.lane.lo, .int .i64 s.lane.hi, .int .i64 s.bend], .int .i64 0])) ∧
  (er ≠ 0 → e = .returned (.tuple #[.agg #[.int .i64 0, .slice none 0 0, .int .i64 0, .int .i64 0, .int .i64 0], .int .i64 er])) ∧ Below w.heap.size w w'
set_option maxRecDepth 100000 in
set_option maxHeartbeats 1000000 in
theorem checked_any (s : Strm) (A O : Option Addr) (n c no co B1 B : Nat) (l : List Bnd) (w : World) (hss : SlAt w B1 5 Sec.cells A n c s.secs) (hs : SlAt w B 2 Bnd.cells O no co l) :
    Calls Tryz.prog 80 #[.agg #[.int .i64 s.head, .slice A n c, .int .i64 s.lane.lo, .int .i64 s.lane.hi, .int .i64 s.bend], .slice O no co] w (RetLine s A n c (errB s l) w) := by
  cases h1 : okStrm s
  · have hk : chkStrm s = 30 := by simp [chkStrm, h1]
    have hv : errB s l = 30 := by simp [errB, h1]
    rw [hv]
    clear h1 hv
    replace hk := Lib.hid hk
    go_enter Tryz.func80, Tryz.ntmps80
    go_wp2_with fail
    refine (check_any s A n c B1 _ ((hss.alloc _).alloc _)).mono ?_; rw [hk.out]; rintro e w1 ⟨rfl, hb1⟩
    have k4 := (Blk.new _ _ _).below hb1
    rw [World.size_alloc] at k4
    obtain ⟨c4, f4, l4⟩ := k4.rules
    have b1 := (((Below.refl w.heap.size w).alloc (Nat.le_refl _) _).alloc (by simp) _).trans (hb1.mono (by simp; omega))
    go_wp2
    refine bodyPost_ret (v := .tuple #[.agg #[.int .i64 0, .slice none 0 0, .int .i64 0, .int .i64 0, .int .i64 0], .int .i64 30]) (by simp [results, Tryz.results80, go_sem, c4]) rfl ⟨fun h => by omega, fun _ => rfl, ?_⟩
    (have hzB := b1.size; repeat (first | exact b1 | (refine Below.setCell ?_ (by dsimp only; omega) _) | (refine Below.alloc ?_ (by simp; omega) _) | (refine Below.drew ?_)))
  · have hk : chkStrm s = 0 := by simp [chkStrm, h1]
    replace hk := Lib.hid hk
    have hsl := Lib.hid hss.len
    cases h2 : okOffs s l
    · have hv : errB s l = 31 := by simp [errB, h1, h2]
      rw [hv]
      clear h1 hv
      replace h2 := Lib.hid h2
      go_enter Tryz.func80, Tryz.ntmps80
      go_wp2_with fail
      refine (check_any s A n c B1 _ ((hss.alloc _).alloc _)).mono ?_; rw [hk.out]; rintro e w1 ⟨rfl, hb1⟩
      have k2 := ((Blk.new w _ _).alloc _).below hb1
      have k4 := (Blk.new _ _ _).below hb1
      rw [World.size_alloc] at k4
      obtain ⟨c2, f2, l2⟩ := k2.rules
      have b1 := (((Below.refl w.heap.size w).alloc (Nat.le_refl _) _).alloc (by simp) _).trans (hb1.mono (by simp; omega))
      go_wp2_with fail
      refine (bounds_any s A O n c no co B l _ hsl.out ((((hs.alloc _).alloc _).below hb1).alloc _)).mono ?_; rw [h2.out]; rintro e w2 ⟨rfl, hb2⟩
      replace k4 := (k4.alloc _).below hb2
      clear c2 f2 l2 k2
      obtain ⟨c4, f4, l4⟩ := k4.rules
      have b2 := b1.trans (((Below.refl _ _).alloc b1.size _).trans (hb2.mono (by have := b1.size; simp; omega)))
      go_wp2
      refine bodyPost_ret (v := .tuple #[.agg #[.int .i64 0, .slice none 0 0, .int .i64 0, .int .i64 0, .int .i64 0], .int .i64 31]) (by simp [results, Tryz.results80, go_sem, c4]) rfl ⟨fun h => by omega, fun _ => rfl, ?_⟩
      (have hzB := b2.size; repeat (first | exact b2 | (refine Below.setCell ?_ (by dsimp only; omega) _) | (refine Below.alloc ?_ (by simp; omega) _) | (refine Below.drew ?_)))
    · have hv : errB s l = 0 := by simp [errB, h1, h2]
      rw [hv]
      clear h1 hv
      replace h2 := Lib.hid h2
      go_enter Tryz.func80, Tryz.ntmps80
      go_wp2_with fail
      refine (check_any s A n c B1 _ ((hss.alloc _).alloc _)).mono ?_; rw [hk.out]; rintro e w1 ⟨rfl, hb1⟩
      have k2 := ((Blk.new w _ _).alloc _).below hb1
      have k4 := (Blk.new _ _ _).below hb1
      rw [World.size_alloc] at k4
      obtain ⟨c2, f2, l2⟩ := k2.rules
      have b1 := (((Below.refl w.heap.size w).alloc (Nat.le_refl _) _).alloc (by simp) _).trans (hb1.mono (by simp; omega))
      go_wp2_with fail
      refine (bounds_any s A O n c no co B l _ hsl.out ((((hs.alloc _).alloc _).below hb1).alloc _)).mono ?_; rw [h2.out]; rintro e w2 ⟨rfl, hb2⟩
      have k7 := (Blk.new w1 _ _).below hb2
      replace k4 := (k4.alloc _).below hb2
      clear c2 f2 l2 k2
      obtain ⟨c4, f4, l4⟩ := k4.rules
      obtain ⟨c7, f7, l7⟩ := k7.rules
      have b2 := b1.trans (((Below.refl _ _).alloc b1.size _).trans (hb2.mono (by have := b1.size; simp; omega)))
      go_wp2
      refine bodyPost_ret (v := .tuple #[.agg #[.int .i64 s.head, .slice A n c, .int .i64 s.lane.lo, .int .i64 s.lane.hi, .int .i64 s.bend], .int .i64 0]) (by simp [results, Tryz.results80, go_sem, c4]) rfl ⟨fun _ => rfl, fun h => absurd rfl h, ?_⟩
      (have hzB := b2.size; repeat (first | exact b2 | (refine Below.setCell ?_ (by dsimp only; omega) _) | (refine Below.alloc ?_ (by simp; omega) _) | (refine Below.drew ?_)))
theorem errB_zero {s : Strm} {l : List Bnd} (h : errB s l = 0) : okStrm s = true ∧ okOffs s l = true := by
  unfold errB at h
  split at h
  · split at h
    · constructor <;> assumption
    · omega
  · omega
set_option maxRecDepth 100000 in
set_option maxHeartbeats 1000000 in
theorem Enclose_any (s : Strm) (A O : Option Addr) (n c no co B1 B : Nat) (l : List Bnd) (d : Bnd) (w : World) (hss : SlAt w B1 5 Sec.cells A n c s.secs) (hs : SlAt w B 2 Bnd.cells O no co l) :
    Calls Tryz.prog 44 #[.agg #[.int .i64 s.head, .slice A n c, .int .i64 s.lane.lo, .int .i64 s.lane.hi, .int .i64 s.bend], .slice O no co, .agg #[.int .i64 d.lo, .int .i64 d.hi]] w (RetSl 2 Bnd.cells (encR s l d) w) := by
  by_cases h1 : errB s l = 0
  · obtain ⟨e1, e2⟩ := errB_zero h1
    cases h2 : okBnd 100 d
    · have hv : encR s l d = ([], 32) := by simp [encR, h1, h2]
      rw [hv]
      clear hv
      replace h1 := Lib.hid h1
      replace h2 := Lib.hid h2
      clear e1 e2
      go_enter Tryz.func44, Tryz.ntmps44
      go_wp2_with fail
      refine (checked_any s A O n c no co B1 B l _ ((hss.alloc _).alloc _) ((hs.alloc _).alloc _)).mono ?_
      rintro e w1 ⟨r1, -, hb1⟩
      obtain rfl := r1 h1.out
      clear r1
      have k5 := (Blk.new _ _ _).below hb1
      rw [World.size_alloc] at k5
      obtain ⟨c5, f5, l5⟩ := k5.rules
      have b1 := (((Below.refl w.heap.size w).alloc (Nat.le_refl _) _).alloc (by simp) _).trans (hb1.mono (by simp; omega))
      go_wp2_with fail
      refine (bound100_any d _).mono ?_; rw [h2.out]; rintro e w2 ⟨rfl, hb2⟩
      go_wp2
      go_ret2
      exact RetSl.none_ (b1.trans (((Below.refl _ _).alloc b1.size _).trans (hb2.mono (by have := b1.size; simp; omega))))
    · have hv : encR s l d = (encL s l d, 0) := by simp [encR, h1, h2]
      rw [hv]
      clear hv
      replace h1 := Lib.hid h1
      replace h2 := Lib.hid h2
      replace e1 := Lib.hid e1
      replace e2 := Lib.hid e2
      go_enter Tryz.func44, Tryz.ntmps44
      go_wp2_with fail
      refine (checked_any s A O n c no co B1 B l _ ((hss.alloc _).alloc _) ((hs.alloc _).alloc _)).mono ?_
      rintro e w1 ⟨r1, -, hb1⟩
      obtain rfl := r1 h1.out
      clear r1
      have k5 := (Blk.new _ _ _).below hb1
      rw [World.size_alloc] at k5
      obtain ⟨c5, f5, l5⟩ := k5.rules
      have b1 := (((Below.refl w.heap.size w).alloc (Nat.le_refl _) _).alloc (by simp) _).trans (hb1.mono (by simp; omega))
      go_wp2_with fail
      refine (bound100_any d _).mono ?_; rw [h2.out]; rintro e w2 ⟨rfl, hb2⟩
      have k8 := (Blk.new w1 _ _).below hb2
      replace k5 := (k5.alloc _).below hb2
      clear c5 f5 l5
      obtain ⟨c5, f5, l5⟩ := k5.rules
      obtain ⟨c8, f8, l8⟩ := k8.rules
      have b2 := b1.trans (((Below.refl _ _).alloc b1.size _).trans (hb2.mono (by have := b1.size; simp; omega)))
      go_wp2_with fail
      refine (enclosed_any s A O n c no co B1 B l d _ e1.out e2.out h2.out (((((hss.alloc _).alloc _).below hb1).alloc _).below hb2) (((((hs.alloc _).alloc _).below hb1).alloc _).below hb2)).mono ?_
      rintro e w3 ⟨O', co', rfl, hown, hr, hb3⟩
      go_wp2
      go_ret2
      exact ⟨O', no, co', rfl, hr.mono b2.size, b2.trans (hb3.mono b2.size)⟩
  · have hv : encR s l d = ([], errB s l) := by simp [encR, h1]
    rw [hv]
    clear hv
    have h1' : (errB s l != 0) = true := by rw [bne_iff_ne]; exact h1
    replace h1 := Lib.hid h1
    go_enter Tryz.func44, Tryz.ntmps44
    go_wp2_with fail
    refine (checked_any s A O n c no co B1 B l _ ((hss.alloc _).alloc _) ((hs.alloc _).alloc _)).mono ?_
    rintro e w1 ⟨-, r2, hb1⟩
    obtain rfl := r2 h1.out
    clear r2
    have b1 := (((Below.refl w.heap.size w).alloc (Nat.le_refl _) _).alloc (by simp) _).trans (hb1.mono (by simp; omega))
    go_wp2
    go_ret2
    exact RetSl.none_ ((Below.alloc b1 b1.size _))
set_option maxRecDepth 100000 in
set_option maxHeartbeats 1000000 in
theorem Bends_any (s : Strm) (A O : Option Addr) (n c no co B1 B : Nat) (l : List Bnd) (w : World) (hss : SlAt w B1 5 Sec.cells A n c s.secs) (hs : SlAt w B 2 Bnd.cells O no co l) :
    Calls Tryz.prog 60 #[.agg #[.int .i64 s.head, .slice A n c, .int .i64 s.lane.lo, .int .i64 s.lane.hi, .int .i64 s.bend], .slice O no co] w (RetSl 2 Bnd.cells (bendR s l) w) := by
  by_cases h1 : errB s l = 0
  · obtain ⟨e1, e2⟩ := errB_zero h1
    have hv : bendR s l = (bendL s l, 0) := by simp [bendR, h1]
    rw [hv]
    clear hv
    replace h1 := Lib.hid h1
    replace e1 := Lib.hid e1
    replace e2 := Lib.hid e2
    go_enter Tryz.func60, Tryz.ntmps60
    go_wp2_with fail
    refine (checked_any s A O n c no co B1 B l _ (hss.alloc _) (hs.alloc _)).mono ?_
    rintro e w1 ⟨r1, -, hb1⟩
    obtain rfl := r1 h1.out
    clear r1
    have b1 := ((Below.refl w.heap.size w).alloc (Nat.le_refl _) _).trans (hb1.mono (by simp))
    go_wp2_with fail
    refine (bends_any s A O n c no co B l _ (ok_head e1.out) (okOffs_all e2.out) (((hs.alloc _).below hb1).alloc _)).mono ?_
    rintro e w3 ⟨O', co', rfl, hown, hr, hb3⟩
    have b2 := (Below.alloc b1 b1.size (.cells #[.int .i64 s.head, .slice A n c, .int .i64 s.lane.lo, .int .i64 s.lane.hi, .int .i64 s.bend] 102))
    go_wp2
    go_ret2
    exact ⟨O', no, co', rfl, hr.mono b2.size, b2.trans (hb3.mono b2.size)⟩
  · have hv : bendR s l = ([], errB s l) := by simp [bendR, h1]
    rw [hv]
    clear hv
    have h1' : (errB s l != 0) = true := by rw [bne_iff_ne]; exact h1
    replace h1 := Lib.hid h1
    go_enter Tryz.func60, Tryz.ntmps60
    go_wp2_with fail
    refine (checked_any s A O n c no co B1 B l _ (hss.alloc _) (hs.alloc _)).mono ?_
    rintro e w1 ⟨-, r2, hb1⟩
    obtain rfl := r2 h1.out
    clear r2
    have b1 := ((Below.refl w.heap.size w).alloc (Nat.le_refl _) _).trans (hb1.mono (by simp))
    go_wp2
    go_ret2
    exact RetSl.none_ ((Below.alloc b1 b1.size _))
end Go.Proofs.YtjiaepphnddpoaaGreat
