/-
  Walks, fifth part: the bounds after a step.
  Walks, sixth part: pulls.
-/
import Derived.Test.YthjdjpcomocffaaGreatW3
namespace Go.Proofs.YthjdjpcomocffaaGreat
open Go.RowKit Go.Shelf

/-! enclosed$1: both ends of the bound after a step -/
theorem boxes_keep {w w' : World} {g3 g6 g7 g4 : Nat} {a b c d : Array Value}
    (h : (∀ i, w.cell? ⟨g3, i, none⟩ = a[i]?) ∧ (∀ i, w.cell? ⟨g6, i, none⟩ = b[i]?) ∧ (∀ i, w.cell? ⟨g7, i, none⟩ = c[i]?) ∧ (∀ i, w.cell? ⟨g4, i, none⟩ = d[i]?) ∧ g3 < w.heap.size ∧ g6 < w.heap.size ∧ g7 < w.heap.size ∧ g4 < w.heap.size)
    (hb : Below w.heap.size w w') :
    (∀ i, w'.cell? ⟨g3, i, none⟩ = a[i]?) ∧ (∀ i, w'.cell? ⟨g6, i, none⟩ = b[i]?) ∧ (∀ i, w'.cell? ⟨g7, i, none⟩ = c[i]?) ∧ (∀ i, w'.cell? ⟨g4, i, none⟩ = d[i]?) ∧ g3 < w'.heap.size ∧ g6 < w'.heap.size ∧ g7 < w'.heap.size ∧ g4 < w'.heap.size := by
  obtain ⟨h1, h2, h3, h4, l1, l2, l3, l4⟩ := h
  have := hb.size
  exact ⟨fun i => (hb.cell (p := ⟨g3, i, none⟩) l1).trans (h1 i), fun i => (hb.cell (p := ⟨g6, i, none⟩) l2).trans (h2 i), fun i => (hb.cell (p := ⟨g7, i, none⟩) l3).trans (h3 i), fun i => (hb.cell (p := ⟨g4, i, none⟩) l4).trans (h4 i), by omega, by omega, by omega, by omega⟩
theorem boxes_set {w : World} {g3 g6 g7 g4 : Nat} {a b c d : Array Value}
    (h : (∀ i, w.cell? ⟨g3, i, none⟩ = a[i]?) ∧ (∀ i, w.cell? ⟨g6, i, none⟩ = b[i]?) ∧ (∀ i, w.cell? ⟨g7, i, none⟩ = c[i]?) ∧ (∀ i, w.cell? ⟨g4, i, none⟩ = d[i]?) ∧ g3 < w.heap.size ∧ g6 < w.heap.size ∧ g7 < w.heap.size ∧ g4 < w.heap.size)
    (p : Addr) (u : Value) (n1 : g3 < p.block) (n2 : g6 < p.block) (n3 : g7 < p.block) (n4 : g4 < p.block) :
    (∀ i, (w.setCell p u).cell? ⟨g3, i, none⟩ = a[i]?) ∧ (∀ i, (w.setCell p u).cell? ⟨g6, i, none⟩ = b[i]?) ∧ (∀ i, (w.setCell p u).cell? ⟨g7, i, none⟩ = c[i]?) ∧ (∀ i, (w.setCell p u).cell? ⟨g4, i, none⟩ = d[i]?) ∧ g3 < (w.setCell p u).heap.size ∧ g6 < (w.setCell p u).heap.size ∧ g7 < (w.setCell p u).heap.size ∧ g4 < (w.setCell p u).heap.size := by
  obtain ⟨h1, h2, h3, h4, l1, l2, l3, l4⟩ := h
  have e : (w.setCell p u).heap.size = w.heap.size := by simp [World.setCell]
  have o : ∀ (g i : Nat), g < p.block → (w.setCell p u).cell? ⟨g, i, none⟩ = w.cell? ⟨g, i, none⟩ := fun g i hg => World.cell?_setCell_other w p ⟨g, i, none⟩ u (fun e => by subst e; simp at hg)
  exact ⟨fun i => (o g3 i n1).trans (h1 i), fun i => (o g6 i n2).trans (h2 i), fun i => (o g7 i n3).trans (h3 i), fun i => (o g4 i n4).trans (h4 i), by omega, by omega, by omega, by omega⟩
set_option maxRecDepth 100000 in
set_option maxHeartbeats 1000000 in
theorem enclosed1_any (s : Strm) (A : Option Addr) (n c B i gs gd : Nat) (d own bef : Bnd) (w : World) (hs : SlAt w B 5 Sec.cells A n c s.secs) (ho : okStrm s = true) (hd : okBnd 100 d = true)
    (ks : Blk w gs 74 #[.int .i64 s.head, .slice A n c, .int .i64 s.lane.lo, .int .i64 s.lane.hi, .int .i64 s.bend]) (kd : Blk w gd 24 #[.int .i64 d.lo, .int .i64 d.hi]) (hi : i < n) (h1 : okB own) (h2 : okB bef) :
    Calls Tryz.prog 62 #[.int .i64 (i : Int), .agg #[.int .i64 own.lo, .int .i64 own.hi], .agg #[.int .i64 bef.lo, .int .i64 bef.hi], .pointer (some ⟨gs, 0, none⟩), .pointer (some ⟨gd, 0, none⟩)] w fun e w' => e = .returned (.agg #[.int .i64 (encB s d i own bef).lo, .int .i64 (encB s d i own bef).hi]) ∧ Below w.heap.size w w' := by
  have i0 : ∀ w, (Instr.index 126 (.agg #[.func (.func 63) #[] #[], .func (.func 64) #[] #[]]) (.int .i64 0)).run Tryz.prog w = .ok (.func (.func 63) #[] #[]) w := fun _ => by kernel_rfl
  have i1 : ∀ w, (Instr.index 126 (.agg #[.func (.func 63) #[] #[], .func (.func 64) #[] #[]]) (.int .i64 1)).run Tryz.prog w = .ok (.func (.func 64) #[] #[]) w := fun _ => by kernel_rfl
  go_enter Tryz.func62, Tryz.ntmps62
  have hds := of_decide_eq_true (p := -100 ≤ d.lo ∧ d.lo ≤ d.hi ∧ d.hi ≤ 100) hd
  obtain ⟨hd1, hd2, hd3⟩ := hds
  obtain ⟨p1, p2, p3⟩ := h1
  obtain ⟨p4, p5, p6⟩ := h2
  replace ho := Lib.hid ho
  clear hd
  have hzl : Hid (eased s (s.sec i) own.lo bef.lo d.lo = (encB s d i own bef).lo) := rfl
  have hzh : Hid (eased s (s.sec i) own.hi bef.hi d.hi = (encB s d i own bef).hi) := rfl
  generalize (encB s d i own bef).lo = zl at *
  generalize (encB s d i own bef).hi = zh at *
  go_wp2_with fail
  go_loopw [13] (fun j wr => ((j = .int .i64 0 ∧ Blk wr (w.heap.size + 1 + 1 + 1) 96 #[.int .i64 0, .int .i64 0]) ∨ (j = .int .i64 1 ∧ Blk wr (w.heap.size + 1 + 1 + 1) 96 #[.int .i64 zl, .int .i64 0]) ∨ (j = .int .i64 2 ∧ Blk wr (w.heap.size + 1 + 1 + 1) 96 #[.int .i64 zl, .int .i64 zh])) ∧
      Blk wr w.heap.size 24 #[.int .i64 own.lo, .int .i64 own.hi] ∧ Blk wr (w.heap.size + 1) 24 #[.int .i64 bef.lo, .int .i64 bef.hi] ∧ Blk wr (w.heap.size + 1 + 1) 24 #[.int .i64 0, .int .i64 0] ∧ Below w.heap.size w wr) (fun j wr => 2 - (intOf j).toNat)
  case atStart =>
    refine ⟨.inl ⟨rfl, ?_⟩, ?_, ?_, ?_, ?_⟩
    · have := Blk.new (((w.alloc (.cells #[.int .i64 own.lo, .int .i64 own.hi] 24)).alloc (.cells #[.int .i64 bef.lo, .int .i64 bef.hi] 24)).alloc (.cells #[.int .i64 0, .int .i64 0] 24)) 96 #[.int .i64 0, .int .i64 0]
      simpa using this
    · exact (((Blk.new w _ _).alloc _).alloc _).alloc _
    · have := ((Blk.new (w.alloc (.cells #[.int .i64 own.lo, .int .i64 own.hi] 24)) 24 #[.int .i64 bef.lo, .int .i64 bef.hi]).alloc (.cells #[.int .i64 0, .int .i64 0] 24)).alloc (.cells #[.int .i64 0, .int .i64 0] 96)
      simpa using this
    · have := (Blk.new ((w.alloc (.cells #[.int .i64 own.lo, .int .i64 own.hi] 24)).alloc (.cells #[.int .i64 bef.lo, .int .i64 bef.hi] 24)) 24 #[.int .i64 0, .int .i64 0]).alloc (.cells #[.int .i64 0, .int .i64 0] 96)
      simpa using this
    · exact ((((Below.refl _ _).alloc (Nat.le_refl _) _).alloc (by simp) _).alloc (by simp; omega) _).alloc (by simp; omega) _
  case round =>
    obtain ⟨hj, k6, k7, k8, hb⟩ := hrel
    have ks' := ks.belowB hb ks.lt
    have kd' := kd.belowB hb kd.lt
    have lS := ks.lt
    have lD := kd.lt
    rcases hj with ⟨rfl, k9⟩ | ⟨rfl, k9⟩ | ⟨rfl, k9⟩
    · go_wp2_with fail
      obtain ⟨c3, f3, l3⟩ := ks'.rules
      obtain ⟨c4, f4, l4⟩ := kd'.rules
      obtain ⟨c6, f6, l6⟩ := k6.rules
      obtain ⟨c7, f7, l7⟩ := k7.rules
      go_region_held3 (fun w' => (∀ i, w'.cell? ⟨gs, i, none⟩ = #[Value.int .i64 s.head, .slice A n c, .int .i64 s.lane.lo, .int .i64 s.lane.hi, .int .i64 s.bend][i]?) ∧ (∀ i, w'.cell? ⟨w.heap.size, i, none⟩ = #[Value.int .i64 own.lo, .int .i64 own.hi][i]?) ∧ (∀ i, w'.cell? ⟨w.heap.size + 1, i, none⟩ = #[Value.int .i64 bef.lo, .int .i64 bef.hi][i]?) ∧ (∀ i, w'.cell? ⟨gd, i, none⟩ = #[Value.int .i64 d.lo, .int .i64 d.hi][i]?) ∧ gs < w'.heap.size ∧ w.heap.size < w'.heap.size ∧ w.heap.size + 1 < w'.heap.size ∧ gd < w'.heap.size)
        (first | (with_reducible exact boxes_set (by assumption) _ _ (by dsimp only; omega) (by dsimp only; omega) (by dsimp only; omega) (by dsimp only; omega)) | (with_reducible exact boxes_keep (by assumption) hbx) | (with_reducible exact ⟨c3, c6, c7, c4, l3, l6, l7, l4⟩) | exact ⟨c3, c6, c7, c4, l3, l6, l7, l4⟩ | go_keep)
        (first | (go_at_call 63; refine (endslo_any _ _).mono ?_; rintro e w' ⟨rfl, hbx⟩; (first | (have b9x := b9x.trans (hbx.mono b9x.size)) | (have b9x := below_of_drew hbx))) | (go_at_call 26; have bwx := hb.trans (b9x.mono hb.size); have hsx := hs.keep bwx.size (fun _ _ h => bwx.cell h); refine (eased_any s A n c B i _ _ _ _ hsx ho.out hi (by omega) (by omega) (by omega) (by omega) (by omega) (by omega)).mono ?_; rintro e w' ⟨rfl, hbx⟩; have b9y := b9x.trans (hbx.mono b9x.size); have k9y := k9.below b9y; obtain ⟨c9, f9, l9⟩ := k9y.rules))
      have k6y := k6.below b9y
      have k7y := k7.below b9y
      have k8y := k8.below b9y
      have hby := hb.trans (b9y.mono hb.size)
      rw [hzl.out] at *
      clear c3 f3 l3 c4 f4 l4 c6 f6 l6 c7 f7 l7 c9 f9 l9
      go_wp2
      go_roundw
      case rel =>
        have hk9 := k9y.set_ 0 (.int .i64 zl)
        refine ⟨.inr (.inl ⟨rfl, hk9⟩), k6y.far (by dsimp only; omega) _, k7y.far (by dsimp only; omega) _, k8y.far (by dsimp only; omega) _, hby.setCell (p := ⟨w.heap.size + 1 + 1 + 1, 0, none⟩) (by dsimp only; omega) _⟩
      case measure => simp [intOf]
    · go_wp2_with fail
      obtain ⟨c3, f3, l3⟩ := ks'.rules
      obtain ⟨c4, f4, l4⟩ := kd'.rules
      obtain ⟨c6, f6, l6⟩ := k6.rules
      obtain ⟨c7, f7, l7⟩ := k7.rules
      go_region_held3 (fun w' => (∀ i, w'.cell? ⟨gs, i, none⟩ = #[Value.int .i64 s.head, .slice A n c, .int .i64 s.lane.lo, .int .i64 s.lane.hi, .int .i64 s.bend][i]?) ∧ (∀ i, w'.cell? ⟨w.heap.size, i, none⟩ = #[Value.int .i64 own.lo, .int .i64 own.hi][i]?) ∧ (∀ i, w'.cell? ⟨w.heap.size + 1, i, none⟩ = #[Value.int .i64 bef.lo, .int .i64 bef.hi][i]?) ∧ (∀ i, w'.cell? ⟨gd, i, none⟩ = #[Value.int .i64 d.lo, .int .i64 d.hi][i]?) ∧ gs < w'.heap.size ∧ w.heap.size < w'.heap.size ∧ w.heap.size + 1 < w'.heap.size ∧ gd < w'.heap.size)
        (first | (with_reducible exact boxes_set (by assumption) _ _ (by dsimp only; omega) (by dsimp only; omega) (by dsimp only; omega) (by dsimp only; omega)) | (with_reducible exact boxes_keep (by assumption) hbx) | (with_reducible exact ⟨c3, c6, c7, c4, l3, l6, l7, l4⟩) | exact ⟨c3, c6, c7, c4, l3, l6, l7, l4⟩ | go_keep)
        (first | (go_at_call 64; refine (endshi_any _ _).mono ?_; rintro e w' ⟨rfl, hbx⟩; (first | (have b9x := b9x.trans (hbx.mono b9x.size)) | (have b9x := below_of_drew hbx))) | (go_at_call 26; have bwx := hb.trans (b9x.mono hb.size); have hsx := hs.keep bwx.size (fun _ _ h => bwx.cell h); refine (eased_any s A n c B i _ _ _ _ hsx ho.out hi (by omega) (by omega) (by omega) (by omega) (by omega) (by omega)).mono ?_; rintro e w' ⟨rfl, hbx⟩; have b9y := b9x.trans (hbx.mono b9x.size); have k9y := k9.below b9y; obtain ⟨c9, f9, l9⟩ := k9y.rules))
      have k6y := k6.below b9y
      have k7y := k7.below b9y
      have k8y := k8.below b9y
      have hby := hb.trans (b9y.mono hb.size)
      rw [hzh.out] at *
      clear c3 f3 l3 c4 f4 l4 c6 f6 l6 c7 f7 l7 c9 f9 l9
      go_wp2
      go_roundw
      case rel =>
        have hk9 := k9y.set_ 1 (.int .i64 zh)
        refine ⟨.inr (.inr ⟨rfl, hk9⟩), k6y.far (by dsimp only; omega) _, k7y.far (by dsimp only; omega) _, k8y.far (by dsimp only; omega) _, hby.setCell (p := ⟨w.heap.size + 1 + 1 + 1, 1, none⟩) (by dsimp only; omega) _⟩
      case measure => simp [intOf]
    · obtain ⟨c8, f8, l8⟩ := k8.rules
      obtain ⟨c9, f9, l9⟩ := k9.rules
      go_wp2
      refine bodyPost_ret (v := .agg #[.int .i64 zl, .int .i64 zh]) (by simp [results, Tryz.results62, go_sem, c8]) rfl ⟨rfl, (hb.setCell (p := ⟨w.heap.size + 1 + 1, 0, none⟩) (by dsimp only; omega) _).setCell (p := ⟨w.heap.size + 1 + 1, 1, none⟩) (by dsimp only; omega) _⟩
theorem eg_enclosed1 : Enters Tryz.prog 62 := enters_of Tryz.func62 (by kernel_rfl) rfl
set_option maxRecDepth 100000 in
set_option maxHeartbeats 1000000 in
theorem enclosed_any (s : Strm) (A O : Option Addr) (n c no co B1 B : Nat) (l : List Bnd) (d : Bnd) (w : World) (ho : okStrm s = true) (hl : okOffs s l = true) (hd : okBnd 100 d = true) (hss : SlAt w B1 5 Sec.cells A n c s.secs) (hs : SlAt w B 2 Bnd.cells O no co l) :
    Calls Tryz.prog 29 #[.agg #[.int .i64 s.head, .slice A n c, .int .i64 s.lane.lo, .int .i64 s.lane.hi, .int .i64 s.bend], .slice O no co, .agg #[.int .i64 d.lo, .int .i64 d.hi]] w (OwnBnds w no (encL s l d)) := by
  have hh := Lib.hid (ok_head ho)
  have hll := Lib.hid (okOffs_len hl)
  replace ho := Lib.hid ho
  replace hl := Lib.hid (okOffs_all hl)
  replace hd := Lib.hid hd
  go_enter Tryz.func29, Tryz.ntmps29
  go_wp2_with fail
  refine (still_any s.head _).mono ?_; rintro e w1 ⟨rfl, hb1⟩
  have k3 := ((Blk.new w _ _).alloc _).below hb1
  have k5 := (Blk.new _ _ _).below hb1
  rw [World.size_alloc] at k5
  have b1 := (((Below.refl w.heap.size w).alloc (Nat.le_refl _) _).alloc (by simp) _).trans (hb1.mono (by simp; omega))
  have hss1 := ((hss.alloc _).alloc _).below hb1
  have hs1 := ((hs.alloc _).alloc _).below hb1
  go_wp2_with fail
  have hfn : FnBnd 62 #[.pointer (some ⟨w.heap.size, 0, none⟩), .pointer (some ⟨w.heap.size + 1, 0, none⟩)] (encB s d) l (still s.head) w1 := by
    intro W i hb hi
    exact enclosed1_any s A n c B1 i w.heap.size (w.heap.size + 1) d _ _ W (hss1.below hb) ho.out hd.out (k3.below hb) (k5.below hb) (by have := hll.out; have := hss.len; omega) (okB_of hl.out (okB_still hh.out) i) (okB_prev hl.out (okB_still hh.out) i)
  refine (eachbnd_any _ l (still s.head) O no co B _ _ eg_enclosed1 w1 hfn hs1).mono ?_
  rintro e w2 ⟨O', co', rfl, hown, hr, hb2⟩
  clear k3 k5
  go_wp2
  go_ret
  exact OwnBnds.lift ⟨O', co', rfl, hown, hr, hb2⟩ b1

/-- What checked hands back: the streamer, or a zero one and the error. -/
def RetLine (s : Strm) (A : Option Addr) (n c : Nat) (er : Int) (w : World) (e : Ending) (w' : World) : Prop :=
  (er = 0 → e = .returned (.tuple #[.agg #[.int .i64 s.head, .slice A n c, .int .i64 s.lane.lo, .int .i64 s.lane.hi, .int .i64 s.bend], .int .i64 0])) ∧
  (er ≠ 0 → e = .returned (.tuple #[.agg #[.int .i64 0, .slice none 0 0, .int .i64 0, .int .i64 0, .int .i64 0], .int .i64 er])) ∧ Below w.heap.size w w'
set_option maxRecDepth 100000 in
set_option maxHeartbeats 1000000 in
theorem checked_any (s : Strm) (A O : Option Addr) (n c no co B1 B : Nat) (l : List Bnd) (w : World) (hss : SlAt w B1 5 Sec.cells A n c s.secs) (hs : SlAt w B 2 Bnd.cells O no co l) :
    Calls Tryz.prog 27 #[.agg #[.int .i64 s.head, .slice A n c, .int .i64 s.lane.lo, .int .i64 s.lane.hi, .int .i64 s.bend], .slice O no co] w (RetLine s A n c (errB s l) w) := by
  cases h1 : okStrm s
  · have hk : chkStrm s = 30 := by simp [chkStrm, h1]
    have hv : errB s l = 30 := by simp [errB, h1]
    rw [hv]
    clear h1 hv
    replace hk := Lib.hid hk
    go_enter Tryz.func27, Tryz.ntmps27
    go_wp2_with fail
    refine (check_any s A n c B1 _ ((hss.alloc _).alloc _)).mono ?_; rw [hk.out]; rintro e w1 ⟨rfl, hb1⟩
    have k4 := (Blk.new _ _ _).below hb1
    rw [World.size_alloc] at k4
    obtain ⟨c4, f4, l4⟩ := k4.rules
    have b1 := (((Below.refl w.heap.size w).alloc (Nat.le_refl _) _).alloc (by simp) _).trans (hb1.mono (by simp; omega))
    go_wp2
    refine bodyPost_ret (v := .tuple #[.agg #[.int .i64 0, .slice none 0 0, .int .i64 0, .int .i64 0, .int .i64 0], .int .i64 30]) (by simp [results, Tryz.results27, go_sem, c4]) rfl ⟨fun h => by omega, fun _ => rfl, ?_⟩
    (have hzB := b1.size; repeat (first | exact b1 | (refine Below.setCell ?_ (by dsimp only; omega) _) | (refine Below.alloc ?_ (by simp; omega) _) | (refine Below.drew ?_)))
  · have hk : chkStrm s = 0 := by simp [chkStrm, h1]
    replace hk := Lib.hid hk
    have hsl := Lib.hid hss.len
    cases h2 : okOffs s l
    · have hv : errB s l = 31 := by simp [errB, h1, h2]
      rw [hv]
      clear h1 hv
      replace h2 := Lib.hid h2
      go_enter Tryz.func27, Tryz.ntmps27
      go_wp2_with fail
      refine (check_any s A n c B1 _ ((hss.alloc _).alloc _)).mono ?_; rw [hk.out]; rintro e w1 ⟨rfl, hb1⟩
      have k2 := ((Blk.new w _ _).alloc _).below hb1
      have k4 := (Blk.new _ _ _).below hb1
      rw [World.size_alloc] at k4
      obtain ⟨c2, f2, l2⟩ := k2.rules
      have b1 := (((Below.refl w.heap.size w).alloc (Nat.le_refl _) _).alloc (by simp) _).trans (hb1.mono (by simp; omega))
      go_wp2_with fail
      refine (bounds_any s A O n c no co B l _ hsl.out ((((hs.alloc _).alloc _).below hb1).alloc _)).mono ?_; rw [h2.out]; rintro e w2 ⟨rfl, hb2⟩
      replace k4 := (k4.alloc _).below hb2
      clear c2 f2 l2 k2
      obtain ⟨c4, f4, l4⟩ := k4.rules
      have b2 := b1.trans (((Below.refl _ _).alloc b1.size _).trans (hb2.mono (by have := b1.size; simp; omega)))
      go_wp2
      refine bodyPost_ret (v := .tuple #[.agg #[.int .i64 0, .slice none 0 0, .int .i64 0, .int .i64 0, .int .i64 0], .int .i64 31]) (by simp [results, Tryz.results27, go_sem, c4]) rfl ⟨fun h => by omega, fun _ => rfl, ?_⟩
      (have hzB := b2.size; repeat (first | exact b2 | (refine Below.setCell ?_ (by dsimp only; omega) _) | (refine Below.alloc ?_ (by simp; omega) _) | (refine Below.drew ?_)))
    · have hv : errB s l = 0 := by simp [errB, h1, h2]
      rw [hv]
      clear h1 hv
      replace h2 := Lib.hid h2
      go_enter Tryz.func27, Tryz.ntmps27
      go_wp2_with fail
      refine (check_any s A n c B1 _ ((hss.alloc _).alloc _)).mono ?_; rw [hk.out]; rintro e w1 ⟨rfl, hb1⟩
      have k2 := ((Blk.new w _ _).alloc _).below hb1
      have k4 := (Blk.new _ _ _).below hb1
      rw [World.size_alloc] at k4
      obtain ⟨c2, f2, l2⟩ := k2.rules
      have b1 := (((Below.refl w.heap.size w).alloc (Nat.le_refl _) _).alloc (by simp) _).trans (hb1.mono (by simp; omega))
      go_wp2_with fail
      refine (bounds_any s A O n c no co B l _ hsl.out ((((hs.alloc _).alloc _).below hb1).alloc _)).mono ?_; rw [h2.out]; rintro e w2 ⟨rfl, hb2⟩
      have k7 := (Blk.new w1 _ _).below hb2
      replace k4 := (k4.alloc _).below hb2
      clear c2 f2 l2 k2
      obtain ⟨c4, f4, l4⟩ := k4.rules
      obtain ⟨c7, f7, l7⟩ := k7.rules
      have b2 := b1.trans (((Below.refl _ _).alloc b1.size _).trans (hb2.mono (by have := b1.size; simp; omega)))
      go_wp2
      refine bodyPost_ret (v := .tuple #[.agg #[.int .i64 s.head, .slice A n c, .int .i64 s.lane.lo, .int .i64 s.lane.hi, .int .i64 s.bend], .int .i64 0]) (by simp [results, Tryz.results27, go_sem, c4]) rfl ⟨fun _ => rfl, fun h => absurd rfl h, ?_⟩
      (have hzB := b2.size; repeat (first | exact b2 | (refine Below.setCell ?_ (by dsimp only; omega) _) | (refine Below.alloc ?_ (by simp; omega) _) | (refine Below.drew ?_)))
theorem errB_zero {s : Strm} {l : List Bnd} (h : errB s l = 0) : okStrm s = true ∧ okOffs s l = true := by
  unfold errB at h
  split at h
  · split at h
    · constructor <;> assumption
    · omega
  · omega
set_option maxRecDepth 100000 in
set_option maxHeartbeats 1000000 in
theorem Enclose_any (s : Strm) (A O : Option Addr) (n c no co B1 B : Nat) (l : List Bnd) (d : Bnd) (w : World) (hss : SlAt w B1 5 Sec.cells A n c s.secs) (hs : SlAt w B 2 Bnd.cells O no co l) :
    Calls Tryz.prog 7 #[.agg #[.int .i64 s.head, .slice A n c, .int .i64 s.lane.lo, .int .i64 s.lane.hi, .int .i64 s.bend], .slice O no co, .agg #[.int .i64 d.lo, .int .i64 d.hi]] w (RetSl 2 Bnd.cells (encR s l d) w) := by
  by_cases h1 : errB s l = 0
  · obtain ⟨e1, e2⟩ := errB_zero h1
    cases h2 : okBnd 100 d
    · have hv : encR s l d = ([], 32) := by simp [encR, h1, h2]
      rw [hv]
      clear hv
      replace h1 := Lib.hid h1
      replace h2 := Lib.hid h2
      clear e1 e2
      go_enter Tryz.func7, Tryz.ntmps7
      go_wp2_with fail
      refine (checked_any s A O n c no co B1 B l _ ((hss.alloc _).alloc _) ((hs.alloc _).alloc _)).mono ?_
      rintro e w1 ⟨r1, -, hb1⟩
      obtain rfl := r1 h1.out
      clear r1
      have k5 := (Blk.new _ _ _).below hb1
      rw [World.size_alloc] at k5
      obtain ⟨c5, f5, l5⟩ := k5.rules
      have b1 := (((Below.refl w.heap.size w).alloc (Nat.le_refl _) _).alloc (by simp) _).trans (hb1.mono (by simp; omega))
      go_wp2_with fail
      refine (bound100_any d _).mono ?_; rw [h2.out]; rintro e w2 ⟨rfl, hb2⟩
      go_wp2
      go_ret2
      exact RetSl.none_ (b1.trans (((Below.refl _ _).alloc b1.size _).trans (hb2.mono (by have := b1.size; simp; omega))))
    · have hv : encR s l d = (encL s l d, 0) := by simp [encR, h1, h2]
      rw [hv]
      clear hv
      replace h1 := Lib.hid h1
      replace h2 := Lib.hid h2
      replace e1 := Lib.hid e1
      replace e2 := Lib.hid e2
      go_enter Tryz.func7, Tryz.ntmps7
      go_wp2_with fail
      refine (checked_any s A O n c no co B1 B l _ ((hss.alloc _).alloc _) ((hs.alloc _).alloc _)).mono ?_
      rintro e w1 ⟨r1, -, hb1⟩
      obtain rfl := r1 h1.out
      clear r1
      have k5 := (Blk.new _ _ _).below hb1
      rw [World.size_alloc] at k5
      obtain ⟨c5, f5, l5⟩ := k5.rules
      have b1 := (((Below.refl w.heap.size w).alloc (Nat.le_refl _) _).alloc (by simp) _).trans (hb1.mono (by simp; omega))
      go_wp2_with fail
      refine (bound100_any d _).mono ?_; rw [h2.out]; rintro e w2 ⟨rfl, hb2⟩
      have k8 := (Blk.new w1 _ _).below hb2
      replace k5 := (k5.alloc _).below hb2
      clear c5 f5 l5
      obtain ⟨c5, f5, l5⟩ := k5.rules
      obtain ⟨c8, f8, l8⟩ := k8.rules
      have b2 := b1.trans (((Below.refl _ _).alloc b1.size _).trans (hb2.mono (by have := b1.size; simp; omega)))
      go_wp2_with fail
      refine (enclosed_any s A O n c no co B1 B l d _ e1.out e2.out h2.out (((((hss.alloc _).alloc _).below hb1).alloc _).below hb2) (((((hs.alloc _).alloc _).below hb1).alloc _).below hb2)).mono ?_
      rintro e w3 ⟨O', co', rfl, hown, hr, hb3⟩
      go_wp2
      go_ret2
      exact ⟨O', no, co', rfl, hr.mono b2.size, b2.trans (hb3.mono b2.size)⟩
  · have hv : encR s l d = ([], errB s l) := by simp [encR, h1]
    rw [hv]
    clear hv
    have h1' : (errB s l != 0) = true := by rw [bne_iff_ne]; exact h1
    replace h1 := Lib.hid h1
    go_enter Tryz.func7, Tryz.ntmps7
    go_wp2_with fail
    refine (checked_any s A O n c no co B1 B l _ ((hss.alloc _).alloc _) ((hs.alloc _).alloc _)).mono ?_
    rintro e w1 ⟨-, r2, hb1⟩
    obtain rfl := r2 h1.out
    clear r2
    have b1 := (((Below.refl w.heap.size w).alloc (Nat.le_refl _) _).alloc (by simp) _).trans (hb1.mono (by simp; omega))
    go_wp2
    go_ret2
    exact RetSl.none_ ((Below.alloc b1 b1.size _))
set_option maxRecDepth 100000 in
set_option maxHeartbeats 1000000 in
theorem Bends_any (s : Strm) (A O : Option Addr) (n c no co B1 B : Nat) (l : List Bnd) (w : World) (hss : SlAt w B1 5 Sec.cells A n c s.secs) (hs : SlAt w B 2 Bnd.cells O no co l) :
    Calls Tryz.prog 52 #[.agg #[.int .i64 s.head, .slice A n c, .int .i64 s.lane.lo, .int .i64 s.lane.hi, .int .i64 s.bend], .slice O no co] w (RetSl 2 Bnd.cells (bendR s l) w) := by
  by_cases h1 : errB s l = 0
  · obtain ⟨e1, e2⟩ := errB_zero h1
    have hv : bendR s l = (bendL s l, 0) := by simp [bendR, h1]
    rw [hv]
    clear hv
    replace h1 := Lib.hid h1
    replace e1 := Lib.hid e1
    replace e2 := Lib.hid e2
    go_enter Tryz.func52, Tryz.ntmps52
    go_wp2_with fail
    refine (checked_any s A O n c no co B1 B l _ (hss.alloc _) (hs.alloc _)).mono ?_
    rintro e w1 ⟨r1, -, hb1⟩
    obtain rfl := r1 h1.out
    clear r1
    have b1 := ((Below.refl w.heap.size w).alloc (Nat.le_refl _) _).trans (hb1.mono (by simp))
    go_wp2_with fail
    refine (bends_any s A O n c no co B l _ (ok_head e1.out) (okOffs_all e2.out) (((hs.alloc _).below hb1).alloc _)).mono ?_
    rintro e w3 ⟨O', co', rfl, hown, hr, hb3⟩
    have b2 := (Below.alloc b1 b1.size (.cells #[.int .i64 s.head, .slice A n c, .int .i64 s.lane.lo, .int .i64 s.lane.hi, .int .i64 s.bend] 74))
    go_wp2
    go_ret2
    exact ⟨O', no, co', rfl, hr.mono b2.size, b2.trans (hb3.mono b2.size)⟩
  · have hv : bendR s l = ([], errB s l) := by simp [bendR, h1]
    rw [hv]
    clear hv
    have h1' : (errB s l != 0) = true := by rw [bne_iff_ne]; exact h1
    replace h1 := Lib.hid h1
    go_enter Tryz.func52, Tryz.ntmps52
    go_wp2_with fail
    refine (checked_any s A O n c no co B1 B l _ (hss.alloc _) (hs.alloc _)).mono ?_
    rintro e w1 ⟨-, r2, hb1⟩
    obtain rfl := r2 h1.out
    clear r2
    have b1 := ((Below.refl w.heap.size w).alloc (Nat.le_refl _) _).trans (hb1.mono (by simp))
    go_wp2
    go_ret2
    exact RetSl.none_ ((Below.alloc b1 b1.size _))
end Go.Proofs.YthjdjpcomocffaaGreat
namespace Go.Proofs.YthjdjpcomocffaaGreat
open Go.RowKit Go.Shelf

theorem own_form {w : World} {base : Nat} {e : TypeId} {size n c : Nat} {O : Option Addr} {xs : List Value} (h : w.ownsRow base e size (.slice O n c) n xs) (hn : 0 < n) : ∃ g, O = some ⟨g, 0, none⟩ ∧ base ≤ g ∧ g < w.heap.size := by
  rcases h.2 with ⟨_, h2⟩ | ⟨g, cap, cur, hv, hg, hh, _⟩
  · omega
  · injection hv with hv
    exact ⟨g, hv, hg, (Array.getElem?_eq_some_iff.1 hh).1⟩
theorem own_bnd {w : World} {base : Nat} {e : TypeId} {n c g : Nat} {L : List Bnd} (h : w.ownsRow base e 2 (.slice (some ⟨g, 0, none⟩) n c) n (L.flatMap Bnd.cells)) (hn : n ≤ 17592186044416) (hL : L.length = n) {m : Nat} {x : Bnd} (hx : L[m]? = some x) :
    w.cell? ⟨g, m * 2, none⟩ = some (.int .i64 x.lo) ∧ w.cell? ⟨g, m * 2 + 1, none⟩ = some (.int .i64 x.hi) ∧ w.frozen? ⟨g, m * 2, none⟩ = false ∧ w.frozen? ⟨g, m * 2 + 1, none⟩ = false := by
  obtain ⟨A, c', e1, h1⟩ := SlAt.of_own (enc := Bnd.cells) h hn L rfl (fun _ => rfl) hL
  obtain ⟨b, off, e2, _, _, c0, c1⟩ := h1.bnd hx
  injection e1 with e1
  subst e1
  injection e2 with e2
  injection e2 with e3 e4
  subst e3
  subst e4
  rw [Nat.zero_add] at c0 c1
  exact ⟨c0, c1, h.frozenAt _, h.frozenAt _⟩
def mixTo (a b : List Bnd) (k : Nat) : List Bnd := a.take k ++ b.drop k
theorem mixTo_get {a b : List Bnd} {k : Nat} {x : Bnd} (h : a[k]? = some x) : (mixTo a b (k + 1))[k]? = some x := by
  have hk : k < a.length := (List.getElem?_eq_some_iff.1 h).1
  unfold mixTo
  rw [List.getElem?_append_left (by rw [List.length_take]; omega), List.getElem?_take_of_lt (by omega), h]
theorem mixTo_set {a b : List Bnd} {k : Nat} {y : Bnd} (ha : k < a.length) (h : b[k]? = some y) : (mixTo a b (k + 1)).set k y = mixTo a b k := by
  have hb : k < b.length := (List.getElem?_eq_some_iff.1 h).1
  have ey : b[k] = y := (List.getElem?_eq_some_iff.1 h).2
  unfold mixTo
  rw [List.set_append_left _ _ (by rw [List.length_take]; omega)]
  rw [List.take_add_one, List.getElem?_eq_getElem ha]
  simp only [Option.toList_some]
  rw [List.set_append_right _ _ (by rw [List.length_take]; omega)]
  rw [List.length_take, Nat.min_eq_left (by omega), Nat.sub_self, List.set_cons_zero, List.append_assoc]
  rw [List.drop_eq_getElem_cons hb, ey]; rfl
theorem mixTo_len {a b : List Bnd} {k n : Nat} (ha : a.length = n) (hb : b.length = n) (hk : k ≤ n) : (mixTo a b k).length = n := by
  unfold mixTo; rw [List.length_append, List.length_take, List.length_drop]; omega

def pullZ (sl fa : Int) (secs : List Sec) (bd : List Bnd) : List Bnd := (List.range bd.length).map fun i => sumB ((List.zipWith (ownPull sl fa) secs bd).drop i)
theorem pullL_eq (s : Strm) (l : List Bnd) (v : Int) (cur : Bnd) : pullL s l v cur = pullZ (max 0 (v - cur.hi)) (max 0 (v - cur.lo)) s.secs (bendL s l) := by
  simp [pullL, pullZ, bendL, eachL_length]
theorem pullZ_len (sl fa : Int) (secs : List Sec) (bd : List Bnd) : (pullZ sl fa secs bd).length = bd.length := by simp [pullZ]
theorem pullZ_get (sl fa : Int) (secs : List Sec) (bd : List Bnd) {k : Nat} (hk : k < bd.length) : (pullZ sl fa secs bd)[k]? = some (sumB ((List.zipWith (ownPull sl fa) secs bd).drop k)) := by
  simp [pullZ, hk]
theorem sumB_step {Z : List Bnd} {k : Nat} {z : Bnd} (h : Z[k]? = some z) : sumB (Z.drop k) = ⟨(sumB (Z.drop (k + 1))).lo + z.lo, (sumB (Z.drop (k + 1))).hi + z.hi⟩ := by
  have hk : k < Z.length := (List.getElem?_eq_some_iff.1 h).1
  have e : Z[k] = z := (List.getElem?_eq_some_iff.1 h).2
  rw [List.drop_eq_getElem_cons hk, e]; rfl
theorem sumB_bd : ∀ (Z : List Bnd) (M : Int), (∀ z ∈ Z, 0 ≤ z.lo ∧ z.lo ≤ M ∧ 0 ≤ z.hi ∧ z.hi ≤ M) → 0 ≤ (sumB Z).lo ∧ (sumB Z).lo ≤ Z.length * M ∧ 0 ≤ (sumB Z).hi ∧ (sumB Z).hi ≤ Z.length * M
  | [], M, _ => by simp [sumB]
  | z :: Z, M, h => by
    obtain ⟨a1, a2, a3, a4⟩ := sumB_bd Z M (fun y hy => h y (List.mem_cons_of_mem _ hy))
    obtain ⟨b1, b2, b3, b4⟩ := h z (List.mem_cons_self ..)
    simp only [sumB, List.length_cons]
    have e : ((Z.length + 1 : Nat) : Int) * M = Z.length * M + M := by rw [Int.natCast_add, Int.add_mul]; simp
    rw [e]
    omega
theorem ownPull_bd {x : Sec} {b : Bnd} {sl fa : Int} (hx : okSec x = true) (h1 : 0 ≤ sl) (h2 : sl ≤ 150) (h3 : 0 ≤ fa) (h4 : fa ≤ 150) (h5 : 0 ≤ b.lo) (h6 : b.lo ≤ 32768) (h7 : 0 ≤ b.hi) (h8 : b.hi ≤ 32768) :
    (0 ≤ sl * sl ∧ sl * sl ≤ 22500) ∧ (0 ≤ fa * fa ∧ fa * fa ≤ 22500) ∧ (0 ≤ x.drag * (sl * sl + b.lo) ∧ x.drag * (sl * sl + b.lo) ≤ 60000000) ∧ (0 ≤ x.drag * (fa * fa + b.hi) ∧ x.drag * (fa * fa + b.hi) ≤ 60000000) := by
  obtain ⟨k0, k1, k2, k3, k4, k5, k6, k7, k8, k9⟩ := of_decide_eq_true hx
  have s1 := Int.mul_nonneg h1 h1
  have s2 := (mul_bd sl sl 150 150 h1 h2 (by omega) h2 (by omega)).2
  have f1 := Int.mul_nonneg h3 h3
  have f2 := (mul_bd fa fa 150 150 h3 h4 (by omega) h4 (by omega)).2
  have d1 := Int.mul_nonneg k6 (show 0 ≤ sl * sl + b.lo by omega)
  have d2 := (mul_bd x.drag (sl * sl + b.lo) 1000 60000 k6 k7 (by omega) (by omega) (by omega)).2
  have d3 := Int.mul_nonneg k6 (show 0 ≤ fa * fa + b.hi by omega)
  have d4 := (mul_bd x.drag (fa * fa + b.hi) 1000 60000 k6 k7 (by omega) (by omega) (by omega)).2
  omega
theorem bendL_bd {s : Strm} {l : List Bnd} (hh : headOk s) (hl : l.all (okBnd 16384) = true) {k : Nat} {b : Bnd} (h : (bendL s l)[k]? = some b) : 0 ≤ b.lo ∧ b.lo ≤ 32768 ∧ 0 ≤ b.hi ∧ b.hi ≤ 32768 := by
  have hk : k < l.length := by have := (List.getElem?_eq_some_iff.1 h).1; simpa [bendL, eachL_length] using this
  unfold bendL at h
  rw [eachL_get _ _ _ hk] at h
  obtain ⟨p1, p2, p3⟩ := okB_of hl (okB_still hh) k
  obtain ⟨p4, p5, p6⟩ := okB_prev hl (okB_still hh) k
  injection h with h
  subst h
  simp only [bendB]
  omega
set_option maxRecDepth 100000 in
set_option maxHeartbeats 2000000 in
theorem pulls_any (s : Strm) (A O : Option Addr) (n c co B1 B : Nat) (l : List Bnd) (v : Int) (cur : Bnd) (w : World) (ho : okStrm s = true) (hl : okOffs s l = true) (hv : okSpeed v = true) (hc : okBnd 50 cur = true)
    (hss : SlAt w B1 5 Sec.cells A n c s.secs) (hs : SlAt w B 2 Bnd.cells O n co l) :
    Calls Tryz.prog 31 #[.agg #[.int .i64 s.head, .slice A n c, .int .i64 s.lane.lo, .int .i64 s.lane.hi, .int .i64 s.bend], .slice O n co, .int .i64 v, .agg #[.int .i64 cur.lo, .int .i64 cur.hi]] w (OwnBnds w n (pullL s l v cur)) := by
  have hh := Lib.hid (ok_head ho)
  have hla := Lib.hid (okOffs_all hl)
  replace ho := Lib.hid ho
  replace hl := Lib.hid hl
  obtain ⟨v1, v2⟩ := of_decide_eq_true (p := 0 ≤ v ∧ v ≤ 100) hv
  obtain ⟨q1, q2, q3⟩ := of_decide_eq_true (p := -50 ≤ cur.lo ∧ cur.lo ≤ cur.hi ∧ cur.hi ≤ 50) hc
  clear hv hc
  go_enter Tryz.func31, Tryz.ntmps31
  go_wp2_with fail
  refine (bends_any s A O n c n co B l _ hh.out hla.out ((hs.alloc _).alloc _)).mono ?_
  rintro e w1 ⟨O', co', rfl, hown, hr, hb1⟩
  have k4 := ((Blk.new w _ _).alloc _).below hb1
  have k7 := (Blk.new _ _ _).below hb1
  rw [World.size_alloc] at k7
  have b1 := (((Below.refl w.heap.size w).alloc (Nat.le_refl _) _).alloc (by simp) _).trans (hb1.mono (by simp; omega))
  obtain ⟨c4, f4, l4⟩ := k4.rules
  obtain ⟨c7, f7, l7⟩ := k7.rules
  go_wp2_with fail
  go_quiet (fail)
  have e1 : (if cur.hi < v then v - cur.hi else 0) = max 0 (v - cur.hi) := by split <;> omega
  have e2 : (if cur.lo < v then v - cur.lo else 0) = max 0 (v - cur.lo) := by split <;> omega
  have hpe := Lib.hid (pullL_eq s l v cur)
  rw [e1, e2]
  clear e1 e2 c4 f4 l4 c7 f7 l7 k7
  have sl1 : 0 ≤ max 0 (v - cur.hi) ∧ max 0 (v - cur.hi) ≤ 150 := by omega
  have fa1 : 0 ≤ max 0 (v - cur.lo) ∧ max 0 (v - cur.lo) ≤ 150 := by omega
  generalize max 0 (v - cur.hi) = sl at *
  generalize max 0 (v - cur.lo) = fa at *
  have hown1 := ownsRow_base (base' := w.heap.size) hown (by simp; omega)
  have hgl := Lib.hid hown.lt
  have hss1 := ((hss.alloc _).alloc _).below hb1
  obtain ⟨w2, hw⟩ : ∃ w2, w2 = w1.drewN nq := ⟨_, rfl⟩
  rw [← hw]
  have k4' : Blk w2 w.heap.size 74 #[.int .i64 s.head, .slice A n c, .int .i64 s.lane.lo, .int .i64 s.lane.hi, .int .i64 s.bend] := by rw [hw]; exact k4
  have b2 : Below w.heap.size w w2 := by rw [hw]; exact ⟨b1.os, b1.tape, b1.output, b1.size, b1.block⟩
  have hss2 : SlAt w2 B1 5 Sec.cells A n c s.secs := by rw [hw]; exact hss1
  have hown2 : w2.ownsRow w.heap.size 24 2 (.slice O' n co') n ((bendL s l).flatMap Bnd.cells) := by rw [hw]; exact hown1
  clear hw k4 hown hown1 hss1 hr hb1 b1
  have hbl : (bendL s l).length = n := by rw [bendL, eachL_length]; exact hs.len
  have hn0 : 1 ≤ n ∧ n ≤ 8 := by have := hh.out; unfold headOk at this; have := hss.len; omega
  obtain ⟨g, rfl, hg1, hg2⟩ := own_form hown2 (by omega)
  have hg3 : w.heap.size < g := by have := (hgl.out g rfl).1; simp at this; omega
  clear hgl
  have hbb := Lib.hid (fun (k : Nat) (b : Bnd) (h : (bendL s l)[k]? = some b) => bendL_bd hh.out hla.out h)
  have hZl : (List.zipWith (ownPull sl fa) s.secs (bendL s l)).length = n := by rw [List.length_zipWith, hbl, hss.len]; omega
  replace hbl := Lib.hid hbl
  replace hZl := Lib.hid hZl
  have hsl := Lib.hid hss.len
  obtain ⟨sl1, sl2⟩ := sl1
  obtain ⟨fa1, fa2⟩ := fa1
  generalize bendL s l = bd at *
  clear v1 v2 q1 q2 q3
  have n1 : ¬ w2.heap.size = g := by omega
  have n1' : ¬ g = w2.heap.size := by omega
  have n2 : ¬ w2.heap.size = w.heap.size := by have := b2.size; have := k4'.lt; omega
  have n2' : ¬ w.heap.size = w2.heap.size := by have := b2.size; have := k4'.lt; omega
  have hZ : ∀ (m : Nat) (z : Bnd), (List.zipWith (ownPull sl fa) s.secs bd)[m]? = some z → 0 ≤ z.lo ∧ z.lo ≤ 60000000 ∧ 0 ≤ z.hi ∧ z.hi ≤ 60000000 := by
    intro m z hz
    rw [List.getElem?_zipWith] at hz
    cases hs1 : s.secs[m]? with
    | none => rw [hs1] at hz; cases hz
    | some x =>
      cases hb1 : bd[m]? with
      | none => rw [hs1, hb1] at hz; cases hz
      | some y =>
        rw [hs1, hb1] at hz
        simp only [Option.some.injEq] at hz
        subst hz
        obtain ⟨d1, d2, d3, d4⟩ := hbb.out m y hb1
        have hm : m < s.secs.length := (List.getElem?_eq_some_iff.1 hs1).1
        have hx : okSec x = true := by
          have := ok_sec ho.out hm
          rw [sec_at s hm] at hs1
          injection hs1 with hs1
          rw [← hs1]; exact this
        obtain ⟨_, _, ⟨r1, r2⟩, ⟨r3, r4⟩⟩ := ownPull_bd hx sl1 sl2 fa1 fa2 d1 d2 d3 d4
        exact ⟨r1, r2, r3, r4⟩
  have hS : ∀ m, 0 ≤ (sumB ((List.zipWith (ownPull sl fa) s.secs bd).drop m)).lo ∧ (sumB ((List.zipWith (ownPull sl fa) s.secs bd).drop m)).lo ≤ 480000000 ∧ 0 ≤ (sumB ((List.zipWith (ownPull sl fa) s.secs bd).drop m)).hi ∧ (sumB ((List.zipWith (ownPull sl fa) s.secs bd).drop m)).hi ≤ 480000000 := by
    intro m
    have h8 : ((List.zipWith (ownPull sl fa) s.secs bd).drop m).length ≤ 8 := by rw [List.length_drop, hZl.out]; omega
    have := sumB_bd ((List.zipWith (ownPull sl fa) s.secs bd).drop m) 60000000 (fun z hz => by
      have hz' := List.mem_of_mem_drop hz
      obtain ⟨j, hj⟩ := List.mem_iff_getElem?.1 hz'
      exact hZ j z hj)
    omega
  replace hS := Lib.hid hS
  clear hZ
  obtain ⟨hn1, hn8⟩ := hn0
  go_wp2_with fail
  go_loopw [13] (fun j wr => ∃ k : Nat, j = .int .i64 ((k : Int) - 1) ∧ k ≤ n ∧ Blk wr w2.heap.size 24 #[.int .i64 (sumB ((List.zipWith (ownPull sl fa) s.secs bd).drop k)).lo, .int .i64 (sumB ((List.zipWith (ownPull sl fa) s.secs bd).drop k)).hi] ∧
      wr.ownsRow w.heap.size 24 2 (.slice (some ⟨g, 0, none⟩) n co') n ((mixTo bd (pullZ sl fa s.secs bd) k).flatMap Bnd.cells) ∧ Blk wr w.heap.size 74 #[.int .i64 s.head, .slice A n c, .int .i64 s.lane.lo, .int .i64 s.lane.hi, .int .i64 s.bend] ∧ Below w.heap.size w wr) (fun j wr => (intOf j + 1).toNat)
  case atStart =>
    refine ⟨n, rfl, Nat.le_refl _, ?_, ?_, k4'.alloc _, b2.alloc b2.size _⟩
    · have e : (List.zipWith (ownPull sl fa) s.secs bd).drop n = [] := List.drop_eq_nil_of_le (by rw [hZl.out]; omega)
      rw [e]
      exact Blk.new _ _ _
    · have e : mixTo bd (pullZ sl fa s.secs bd) n = bd := by
        unfold mixTo
        rw [List.take_of_length_le (by rw [hbl.out]; omega), List.drop_eq_nil_of_le (by rw [pullZ_len, hbl.out]; omega), List.append_nil]
      rw [e]
      exact hown2.alloc _
  case round =>
    obtain ⟨k, rfl, hk, k12, hown, k4, hb⟩ := hrel
    cases k with
    | zero =>
      go_wp2
      go_ret
      have e : mixTo bd (pullZ sl fa s.secs bd) 0 = pullZ sl fa s.secs bd := by simp [mixTo]
      rw [e] at hown
      obtain ⟨O1, c1, e1, h1⟩ := SlAt.of_own (enc := Bnd.cells) hown (by omega) (pullZ sl fa s.secs bd) rfl (fun _ => rfl) (by rw [pullZ_len, hbl.out])
      rw [← hpe.out] at hown h1
      exact ⟨O1, c1, congrArg Ending.returned e1, e1 ▸ hown, h1, hb⟩
    | succ m =>
      rw [show (((m + 1 : Nat) : Int) - 1) = (m : Int) from by omega]
      obtain ⟨x, hx⟩ := some_of_lt hbl.out (show m < n by omega)
      have hms : m < s.secs.length := by have := hsl.out; omega
      obtain ⟨d1, d2, d3, d4⟩ := hbb.out m x hx
      have hsec := ok_sec ho.out hms
      obtain ⟨⟨r1, r2⟩, ⟨r3, r4⟩, ⟨r5, r6⟩, ⟨r7, r8⟩⟩ := ownPull_bd (b := x) hsec sl1 sl2 fa1 fa2 d1 d2 d3 d4
      have hz : (List.zipWith (ownPull sl fa) s.secs bd)[m]? = some (ownPull sl fa (s.sec m) x) := by
        rw [List.getElem?_zipWith, sec_at s hms, hx]
      have hst := Lib.hid (sumB_step hz)
      obtain ⟨s1, s2, s3, s4⟩ := hS.out (m + 1)
      have hpz := Lib.hid (pullZ_get sl fa s.secs bd (k := m) (by have := hbl.out; omega))
      obtain ⟨bb, off, hA, -, hbl2, -, -, -, c3, -⟩ := (hss.keep hb.size (fun _ _ h => hb.cell h)).sec (sec_at s hms)
      obtain ⟨o0, o1, o2, o3⟩ := own_bnd hown (by omega) (mixTo_len hbl.out (by rw [pullZ_len, hbl.out]) hk) (mixTo_get hx)
      have ho' : ownPull sl fa (s.sec m) x = ⟨(s.sec m).drag * (sl * sl + x.lo), (s.sec m).drag * (fa * fa + x.hi)⟩ := rfl
      rw [ho'] at hst
      generalize (s.sec m).drag = dr at *
      generalize sumB ((List.zipWith (ownPull sl fa) s.secs bd).drop (m + 1)) = S at *
      subst hA
      have hml : (m : Int) < (n : Int) := by omega
      have hm0 : (0 : Int) ≤ (m : Int) := by omega
      obtain ⟨c4, f4, l4⟩ := k4.rules
      obtain ⟨c12, f12, l12⟩ := k12.rules
      have t1 := IntWalk.i64_in (sl * sl) (by omega)
      have t2 := IntWalk.i64_in (sl * sl + x.lo) (by omega)
      have t3 := IntWalk.i64_in (dr * (sl * sl + x.lo)) (by omega)
      have t4 := IntWalk.i64_in (S.lo + dr * (sl * sl + x.lo)) (by omega)
      have t5 := IntWalk.i64_in (fa * fa) (by omega)
      have t6 := IntWalk.i64_in (fa * fa + x.hi) (by omega)
      have t7 := IntWalk.i64_in (dr * (fa * fa + x.hi)) (by omega)
      have t8 := IntWalk.i64_in (S.hi + dr * (fa * fa + x.hi)) (by omega)
      go_wp2_with fail
      go_still_tail 15, (by kernel_rfl)
      change wpList _ _ _ _ _ wr.drew
      have k12a := k12.drew
      have hown_a : wr.drew.ownsRow w.heap.size 24 2 (.slice (some ⟨g, 0, none⟩) n co') n ((mixTo bd (pullZ sl fa s.secs bd) (m + 1)).flatMap Bnd.cells) := hown
      have ha : Below wr.heap.size wr wr.drew := (Below.refl _ _).drew
      generalize wr.drew = wa at *
      have k4a := k4.below ha
      have hba := hb.trans (ha.mono hb.size)
      obtain ⟨ca4, fa4, la4⟩ := k4a.rules
      obtain ⟨ca12, fa12, la12⟩ := k12a.rules
      go_wp2_with fail
      clear ca4 fa4 la4 ca12 fa12 la12 c4 f4 l4 c12 f12 l12 o0 o1 o2 o3 c3
      have k12b := k12a.set_ 0 (.int .i64 (S.lo + dr * (sl * sl + x.lo)))
      have k4b := k4a.far (p := ⟨w2.heap.size, 0, none⟩) n2' (.int .i64 (S.lo + dr * (sl * sl + x.lo)))
      have hown_b := ownsRow_setCell hown_a (p := ⟨w2.heap.size, 0, none⟩) (by simp [Value.ownBlock]; omega) (.int .i64 (S.lo + dr * (sl * sl + x.lo)))
      have hbb2 := hba.setCell (p := ⟨w2.heap.size, 0, none⟩) (by dsimp only; exact b2.size) (.int .i64 (S.lo + dr * (sl * sl + x.lo)))
      generalize wa.setCell ⟨w2.heap.size, 0, none⟩ (.int .i64 (S.lo + dr * (sl * sl + x.lo))) = wb at *
      replace k12b : Blk wb w2.heap.size 24 #[.int .i64 (S.lo + dr * (sl * sl + x.lo)), .int .i64 S.hi] := k12b
      clear hown_a k12a k4a k4 k12 hown hba ha
      obtain ⟨o0, o1, o2, o3⟩ := own_bnd hown_b (by omega) (mixTo_len hbl.out (by rw [pullZ_len, hbl.out]) hk) (mixTo_get hx)
      obtain ⟨c12, f12, l12⟩ := k12b.rules
      go_still_tail 15, (by kernel_rfl)
      change wpList _ _ _ _ _ wb.drew
      have k12c := k12b.drew
      have k4c := k4b.drew
      have hown_c : wb.drew.ownsRow w.heap.size 24 2 (.slice (some ⟨g, 0, none⟩) n co') n ((mixTo bd (pullZ sl fa s.secs bd) (m + 1)).flatMap Bnd.cells) := hown_b
      have hbc : Below w.heap.size w wb.drew := hbb2.drew
      generalize wb.drew = wc at *
      clear c12 f12 l12 o0 o1 o2 o3 k12b k4b hown_b hbb2
      obtain ⟨c12, f12, l12⟩ := k12c.rules
      obtain ⟨o0, o1, o2, o3⟩ := own_bnd hown_c (by omega) (mixTo_len hbl.out (by rw [pullZ_len, hbl.out]) hk) (mixTo_get hx)
      go_wp2
      go_roundw
      case rel =>
        refine ⟨m, rfl, by omega, ?_, ?_, ?_, ?_⟩
        · rw [hst.out]
          exact ((k12c.set_ 1 _).far (p := ⟨g, m * 2, none⟩) n1 _).far (p := ⟨g, m * 2 + 1, none⟩) n1 _
        · have hown_d := ownsRow_setCell hown_c (p := ⟨w2.heap.size, 1, none⟩) (by simp [Value.ownBlock]; omega) (.int .i64 (S.hi + dr * (fa * fa + x.hi)))
          have hown_e := ((hown_d.stored (m * 2) (.int .i64 (S.lo + dr * (sl * sl + x.lo)))).1.stored (m * 2 + 1) (.int .i64 (S.hi + dr * (fa * fa + x.hi)))).1
          rw [flatMap_set2 _ m ⟨S.lo + dr * (sl * sl + x.lo), S.hi + dr * (fa * fa + x.hi)⟩, mixTo_set (by rw [hbl.out]; omega) (by rw [hpz.out, hst.out])] at hown_e
          exact hown_e
        · exact ((k4c.far (p := ⟨w2.heap.size, 1, none⟩) n2' _).far (p := ⟨g, m * 2, none⟩) (by dsimp only; omega) _).far (p := ⟨g, m * 2 + 1, none⟩) (by dsimp only; omega) _
        · exact ((hbc.setCell (p := ⟨w2.heap.size, 1, none⟩) (by dsimp only; exact b2.size) _).setCell (p := ⟨g, m * 2, none⟩) hg1 _).setCell (p := ⟨g, m * 2 + 1, none⟩) hg1 _
      case measure => simp [intOf]
set_option maxRecDepth 100000 in
set_option maxHeartbeats 1000000 in
theorem Pulls_any (s : Strm) (A O : Option Addr) (n c no co B1 B : Nat) (l : List Bnd) (v : Int) (cur : Bnd) (w : World) (hss : SlAt w B1 5 Sec.cells A n c s.secs) (hs : SlAt w B 2 Bnd.cells O no co l) :
    Calls Tryz.prog 8 #[.agg #[.int .i64 s.head, .slice A n c, .int .i64 s.lane.lo, .int .i64 s.lane.hi, .int .i64 s.bend], .slice O no co, .int .i64 v, .agg #[.int .i64 cur.lo, .int .i64 cur.hi]] w (RetSl 2 Bnd.cells (pullR s l v cur) w) := by
  by_cases h1 : errB s l = 0
  · obtain ⟨e1, e2⟩ := errB_zero h1
    cases h3 : okSpeed v
    · have hv : pullR s l v cur = ([], 34) := by simp [pullR, h1, h3]
      rw [hv]
      clear hv
      replace h1 := Lib.hid h1
      replace h3 := Lib.hid (of_decide_eq_false (p := 0 ≤ v ∧ v ≤ 100) h3)
      clear e1 e2
      go_enter Tryz.func8, Tryz.ntmps8
      go_wp2_with fail
      refine (checked_any s A O n c no co B1 B l _ ((hss.alloc _).alloc _) ((hs.alloc _).alloc _)).mono ?_
      rintro e w1 ⟨r1, -, hb1⟩
      obtain rfl := r1 h1.out
      clear r1
      have b1 := (((Below.refl w.heap.size w).alloc (Nat.le_refl _) _).alloc (by simp) _).trans (hb1.mono (by simp; omega))
      go_wp2_with fail
      refine (within_any _ _ _ _).mono ?_; rw [decide_eq_false h3.out]; rintro e w2 ⟨rfl, rfl⟩
      go_wp2
      go_ret2
      exact RetSl.none_ (Below.alloc b1 b1.size _)
    · cases h2 : okBnd 50 cur
      · have hv : pullR s l v cur = ([], 33) := by simp [pullR, h1, h2, h3]
        rw [hv]
        clear hv
        replace h1 := Lib.hid h1
        replace h2 := Lib.hid h2
        replace h3 := Lib.hid (of_decide_eq_true (p := 0 ≤ v ∧ v ≤ 100) h3)
        clear e1 e2
        go_enter Tryz.func8, Tryz.ntmps8
        go_wp2_with fail
        refine (checked_any s A O n c no co B1 B l _ ((hss.alloc _).alloc _) ((hs.alloc _).alloc _)).mono ?_
        rintro e w1 ⟨r1, -, hb1⟩
        obtain rfl := r1 h1.out
        clear r1
        have k7 := (Blk.new _ _ _).below hb1
        rw [World.size_alloc] at k7
        obtain ⟨c7, f7, l7⟩ := k7.rules
        have b1 := (((Below.refl w.heap.size w).alloc (Nat.le_refl _) _).alloc (by simp) _).trans (hb1.mono (by simp; omega))
        go_wp2_with fail
        refine (within_any _ _ _ _).mono ?_; rw [decide_eq_true h3.out]; rintro e w2 ⟨rfl, rfl⟩
        go_wp2_with fail
        refine (bound50_any cur _).mono ?_; rw [h2.out]; rintro e w2 ⟨rfl, hb2⟩
        go_wp2
        go_ret2
        exact RetSl.none_ (b1.trans (((Below.refl _ _).alloc b1.size _).trans (hb2.mono (by have := b1.size; simp; omega))))
      · have hv : pullR s l v cur = (pullL s l v cur, 0) := by simp [pullR, h1, h2, h3]
        rw [hv]
        clear hv
        replace h1 := Lib.hid h1
        replace h2 := Lib.hid h2
        replace e1 := Lib.hid e1
        replace e2 := Lib.hid e2
        have h3' := Lib.hid h3
        replace h3 := Lib.hid (of_decide_eq_true (p := 0 ≤ v ∧ v ≤ 100) h3)
        obtain rfl : no = n := by have := okOffs_len e2.out; have := hs.len; have := hss.len; omega
        go_enter Tryz.func8, Tryz.ntmps8
        go_wp2_with fail
        refine (checked_any s A O _ c _ co B1 B l _ ((hss.alloc _).alloc _) ((hs.alloc _).alloc _)).mono ?_
        rintro e w1 ⟨r1, -, hb1⟩
        obtain rfl := r1 h1.out
        clear r1
        have k7 := (Blk.new _ _ _).below hb1
        rw [World.size_alloc] at k7
        obtain ⟨c7, f7, l7⟩ := k7.rules
        have b1 := (((Below.refl w.heap.size w).alloc (Nat.le_refl _) _).alloc (by simp) _).trans (hb1.mono (by simp; omega))
        go_wp2_with fail
        refine (within_any _ _ _ _).mono ?_; rw [decide_eq_true h3.out]; rintro e w2 ⟨rfl, rfl⟩
        go_wp2_with fail
        refine (bound50_any cur _).mono ?_; rw [h2.out]; rintro e w2 ⟨rfl, hb2⟩
        have k10 := (Blk.new w1 _ _).below hb2
        replace k7 := (k7.alloc _).below hb2
        clear c7 f7 l7
        obtain ⟨c7, f7, l7⟩ := k7.rules
        obtain ⟨c10, f10, l10⟩ := k10.rules
        have b2 := b1.trans (((Below.refl _ _).alloc b1.size _).trans (hb2.mono (by have := b1.size; simp; omega)))
        go_wp2_with fail
        refine (pulls_any s A O _ c co B1 B l v cur _ e1.out e2.out h3'.out h2.out (((((hss.alloc _).alloc _).below hb1).alloc _).below hb2) (((((hs.alloc _).alloc _).below hb1).alloc _).below hb2)).mono ?_
        rintro e w3 ⟨O', co', rfl, hown, hr, hb3⟩
        go_wp2
        go_ret2
        exact ⟨O', _, co', rfl, hr.mono b2.size, b2.trans (hb3.mono b2.size)⟩
  · have hv : pullR s l v cur = ([], errB s l) := by simp [pullR, h1]
    rw [hv]
    clear hv
    have h1' : (errB s l != 0) = true := by rw [bne_iff_ne]; exact h1
    replace h1 := Lib.hid h1
    go_enter Tryz.func8, Tryz.ntmps8
    go_wp2_with fail
    refine (checked_any s A O n c no co B1 B l _ ((hss.alloc _).alloc _) ((hs.alloc _).alloc _)).mono ?_
    rintro e w1 ⟨-, r2, hb1⟩
    obtain rfl := r2 h1.out
    clear r2
    have b1 := (((Below.refl w.heap.size w).alloc (Nat.le_refl _) _).alloc (by simp) _).trans (hb1.mono (by simp; omega))
    go_wp2
    go_ret2
    exact RetSl.none_ ((Below.alloc b1 b1.size _))

/-! bent, pulled -/
set_option maxRecDepth 100000 in
set_option maxHeartbeats 400000 in
theorem bent1_any (s : Strm) (A : Option Addr) (n c gs : Nat) (w : World) (ks : Blk w gs 74 #[.int .i64 s.head, .slice A n c, .int .i64 s.lane.lo, .int .i64 s.lane.hi, .int .i64 s.bend]) :
    PredB 69 #[.pointer (some ⟨gs, 0, none⟩)] (fun b : Bnd => Value.agg #[.int .i64 b.lo, .int .i64 b.hi]) (fun x : Bnd => decide (s.bend < x.hi)) w := by
  intro W x hb
  have k := ks.below hb
  obtain ⟨c2, f2, l2⟩ := k.rules
  show Calls Tryz.prog 69 #[.agg #[.int .i64 x.lo, .int .i64 x.hi], .pointer (some ⟨gs, 0, none⟩)] W _
  go_enter Tryz.func69, Tryz.ntmps69
  go_wp2
  go_ret
  exact ⟨rfl, (Below.refl _ _).alloc (Nat.le_refl _) _⟩
theorem eg_bent1 : Enters Tryz.prog 69 := enters_of Tryz.func69 (by kernel_rfl) rfl
set_option maxRecDepth 100000 in
set_option maxHeartbeats 1000000 in
theorem bent_any (s : Strm) (A O : Option Addr) (n c no co B : Nat) (l : List Bnd) (w : World) (ho : headOk s) (hl : l.all (okBnd 16384) = true) (hs : SlAt w B 2 Bnd.cells O no co l) :
    Calls Tryz.prog 37 #[.agg #[.int .i64 s.head, .slice A n c, .int .i64 s.lane.lo, .int .i64 s.lane.hi, .int .i64 s.bend], .slice O no co] w fun e w' => e = .returned (.bool (bentS s l)) ∧ Below w.heap.size w w' := by
  replace ho := Lib.hid ho
  replace hl := Lib.hid hl
  go_enter Tryz.func37, Tryz.ntmps37
  go_wp2_with fail
  refine (bends_any s A O n c no co B l _ ho.out hl.out (hs.alloc _)).mono ?_
  rintro e w1 ⟨O', co', rfl, hown, hr, hb1⟩
  have k2 := (Blk.new _ _ _).below hb1
  have b1 := ((Below.refl w.heap.size w).alloc (Nat.le_refl _) _).trans (hb1.mono (by simp))
  go_wp2_with fail
  refine (contains_bnd (fun x => decide (s.bend < x.hi)) O' no co' _ _ _ eg_bent1 (bendL s l) _ (bent1_any s A n c _ _ k2) hr).mono ?_
  rintro e w2 ⟨rfl, hb2⟩
  go_wp2
  go_ret
  exact ⟨rfl, b1.trans (hb2.mono b1.size)⟩
def anyTo (p : Nat → Bool) (k : Nat) : Bool := (List.range k).any p
theorem anyTo_succ {p : Nat → Bool} {k : Nat} : anyTo p (k + 1) = (anyTo p k || p k) := by simp [anyTo, List.range_succ]
theorem anyTo_hit {p : Nat → Bool} {k n : Nat} (hk : k < n) (h : p k = true) : anyTo p n = true := by
  unfold anyTo; rw [List.any_eq_true]; exact ⟨k, List.mem_range.2 hk, h⟩
set_option maxRecDepth 100000 in
set_option maxHeartbeats 1000000 in
theorem pulled_any (s : Strm) (A O : Option Addr) (n c co B1 B : Nat) (l : List Bnd) (v : Int) (cur : Bnd) (w : World) (ho : okStrm s = true) (hl : okOffs s l = true) (hv : okSpeed v = true) (hc : okBnd 50 cur = true)
    (hss : SlAt w B1 5 Sec.cells A n c s.secs) (hs : SlAt w B 2 Bnd.cells O n co l) :
    Calls Tryz.prog 38 #[.agg #[.int .i64 s.head, .slice A n c, .int .i64 s.lane.lo, .int .i64 s.lane.hi, .int .i64 s.bend], .slice O n co, .int .i64 v, .agg #[.int .i64 cur.lo, .int .i64 cur.hi]] w fun e w' => e = .returned (.bool (pulledS s l v cur)) ∧ Below w.heap.size w w' := by
  have hpd : pulledS s l v cur = anyTo (fun i => decide ((s.sec i).cap < ((pullL s l v cur).getD i ⟨0, 0⟩).hi)) n := by unfold pulledS anyTo; rw [hs.len]
  have hpl : (pullL s l v cur).length = n := by simp [pullL, hs.len]
  rw [hpd]
  clear hpd
  obtain ⟨pl, hpl0⟩ : ∃ pl, pl = pullL s l v cur := ⟨_, rfl⟩
  rw [← hpl0] at hpl ⊢
  replace hpl0 := Lib.hid hpl0
  have hsl := Lib.hid hss.len
  have hll := Lib.hid hs.len
  replace ho := Lib.hid ho
  replace hl := Lib.hid hl
  replace hv := Lib.hid hv
  replace hc := Lib.hid hc
  go_enter Tryz.func38, Tryz.ntmps38
  go_wp2_with fail
  refine (pulls_any s A O n c co B1 B l v cur _ ho.out hl.out hv.out hc.out ((hss.alloc _).alloc _) ((hs.alloc _).alloc _)).mono ?_
  rintro e w1 ⟨O', co', rfl, hown, hr, hb1⟩
  have k4 := ((Blk.new w _ _).alloc _).below hb1
  have b1 := (((Below.refl w.heap.size w).alloc (Nat.le_refl _) _).alloc (by simp) _).trans (hb1.mono (by simp; omega))
  have hss1 := ((hss.alloc _).alloc _).below hb1
  rw [← hpl0.out] at hr
  clear hown hs hss hb1
  replace hpl := Lib.hid hpl
  have hn := hr.le
  go_wp2_with fail
  go_loopw [17] (fun i wr => ∃ k : Nat, i = .int .i64 k ∧ k ≤ n ∧ Hid (anyTo (fun i => decide ((s.sec i).cap < (pl.getD i ⟨0, 0⟩).hi)) k = false) ∧ Blk wr w.heap.size 74 #[.int .i64 s.head, .slice A n c, .int .i64 s.lane.lo, .int .i64 s.lane.hi, .int .i64 s.bend] ∧ Below w1.heap.size w1 wr) (fun i wr => n - (intOf i).toNat)
  case atStart => exact ⟨0, rfl, Nat.zero_le _, rfl, k4, Below.refl _ _⟩
  case round =>
    obtain ⟨k, rfl, hk, hno, k4, hb⟩ := hrel
    by_cases hlt : k < n
    · obtain ⟨x, hx⟩ := some_of_lt hpl.out hlt
      have hms : k < s.secs.length := by have := hsl.out; omega
      obtain ⟨b, off, rfl, -, hbl, d0, d1⟩ := (hr.below hb).bnd hx
      obtain ⟨b2, off2, rfl, -, hbl2, -, -, -, -, d4⟩ := (hss1.below hb).sec (sec_at s hms)
      have hgx : pl.getD k ⟨0, 0⟩ = x := by rw [List.getD_eq_getElem?_getD, hx]; rfl
      have hpk : Hid ((fun i => decide ((s.sec i).cap < (pl.getD i ⟨0, 0⟩).hi)) k = decide ((s.sec k).cap < x.hi)) := by show _ = _; simp only [hgx]
      generalize (s.sec k).cap = cp at *
      replace hx := Lib.hid hx
      clear hgx hr hss1
      have hk0 : (0 : Int) ≤ (k : Int) := by omega
      have hkn : (k : Int) < (n : Int) := by omega
      go_wp2_with fail
      obtain ⟨c4, f4, l4⟩ := (k4.alloc (.cells #[.int .i64 x.lo, .int .i64 x.hi] 24)).rules
      go_quiet (fail)
      clear c4 f4 l4
      by_cases hcx : cp < x.hi
      · go_wp2
        go_ret
        exact ⟨ret_bool (anyTo_hit hlt (by rw [hpk.out]; exact decide_eq_true hcx)).symm, b1.trans ((below_drewN (hb.alloc hb.size _) _).mono b1.size)⟩
      · go_wp2
        go_roundw
        case rel => exact ⟨k + 1, by go_num, by omega, by show _ = _; rw [anyTo_succ, hno.out, hpk.out]; simp [hcx], (k4.alloc _).drewN _, below_drewN (hb.alloc hb.size _) _⟩
        case measure => simp [intOf]; omega
    · obtain rfl : k = n := by omega
      go_wp2
      go_ret
      exact ⟨ret_bool hno.out.symm, b1.trans (hb.mono b1.size)⟩
end Go.Proofs.YthjdjpcomocffaaGreat
