/-
  Walks, tenth part: keeps, Watch, Keeps.
-/
import Derived.Test.YtjiaepphnddpoaaGreatW9
namespace Go.Proofs.YtjiaepphnddpoaaGreat
open Go.RowKit Go.Shelf

set_option maxRecDepth 100000 in
set_option maxHeartbeats 1000000 in
theorem keeps_any (s : Strm) (bs : List Bnd) (l : List Wat) (v : List Int) (A O D V : Option Addr) (n c co nd cd nv cv : Nat) (w : World) (ho : okStrm s = true) (hb0 : okOffs s bs = true) (hl0 : l.all okWat = true) (hv : okSpeeds v = true) (hvl : v.length = l.length)
    (hss : SlAt w 0 5 Sec.cells A n c s.secs) (hs : SlAt w 0 2 Bnd.cells O n co bs) (hd : SlAt w 0 4 Wat.cells D nd cd l) (hvv : SlAt w 0 1 ivs V nv cv v) :
    Calls Tryz.prog 52 #[.agg #[.int .i64 s.head, .slice A n c, .int .i64 s.lane.lo, .int .i64 s.lane.hi, .int .i64 s.bend, .slice O n co], .slice D nd cd, .slice V nv cv] w fun e w' =>
      e = .returned (.bool (keepsS s bs l v)) ∧ Below w.heap.size w w' := by
  have hk : keepsS s bs l v = decide ((strainS s bs l v nd).1 = -1 ∧ (strainS s bs l v nd).2 = -1) := by
    unfold keepsS; rw [hd.len]; congr 1; rw [Prod.ext_iff]
  rw [hk]
  clear hk
  have h := fun w' hb => strain_any s bs l v A O D V n c co nd cd nv cv w' ho hb0 hl0 hv hvl (hss.below (w' := w') hb) (hs.below hb) (hd.below hb) (hvv.below hb)
  generalize strainS s bs l v nd = p at *
  obtain ⟨p1, p2⟩ := p
  dsimp only at *
  replace h := Lib.hid h
  clear hss hs hd hvv ho hb0 hl0 hv hvl
  obtain ⟨b, hb⟩ : ∃ b, b = decide (p1 = -1 ∧ p2 = -1) := ⟨_, rfl⟩
  rw [← hb]
  replace hb := Lib.hid hb
  go_enter Tryz.func52, Tryz.ntmps52
  go_wp2_with fail
  refine (h.out _ ((Below.refl _ _).alloc (Nat.le_refl _) _)).mono ?_
  rintro e w1 ⟨rfl, hb1⟩
  have b1 := ((Below.refl w.heap.size w).alloc (Nat.le_refl _) _).trans (hb1.mono (by simp))
  go_wp2
  all_goals
    go_ret
    exact ⟨ret_bool (by rw [hb.out]; simp [*]), b1⟩

theorem errW_zero {s : Strm} {bs : List Bnd} {l : List Wat} {v : List Int} (h : errW s bs l v = 0) : okStrm s = true ∧ okOffs s bs = true ∧ l.all okWat = true ∧ okSpeeds v = true ∧ v.length = l.length ∧ errB s bs = 0 := by
  unfold errW at h
  split at h
  · rename_i h1
    obtain ⟨h2, h3⟩ := errBW_zero h1
    obtain ⟨h4, h5⟩ := errB_zero h2
    unfold okWats at h3
    simp only [Bool.and_eq_true, decide_eq_true_eq] at h3
    split at h
    · rename_i h6
      exact ⟨h4, h5, h3.2, h6.2, h6.1, h2⟩
    · omega
  · exact absurd h (by assumption)
set_option maxRecDepth 100000 in
set_option maxHeartbeats 1000000 in
theorem Watch_any (s : Strm) (A O D V : Option Addr) (n c no co nd cd nv cv : Nat) (bs : List Bnd) (l : List Wat) (v : List Int) (w : World) (hss : SlAt w 0 5 Sec.cells A n c s.secs) (hs : SlAt w 0 2 Bnd.cells O no co bs) (hd : SlAt w 0 4 Wat.cells D nd cd l) (hvv : SlAt w 0 1 ivs V nv cv v) :
    Calls Tryz.prog 11 #[.agg #[.int .i64 s.head, .slice A n c, .int .i64 s.lane.lo, .int .i64 s.lane.hi, .int .i64 s.bend], .slice O no co, .slice D nd cd, .slice V nv cv] w fun e w' =>
      e = .returned (.tuple #[.agg #[.int .i64 (watchR s bs l v).1.1, .int .i64 (watchR s bs l v).1.2], .int .i64 (watchR s bs l v).2]) ∧ Below w.heap.size w w' := by
  have hld := hd.len
  by_cases h1 : errW s bs l v = 0
  · obtain ⟨o1, o2, o3, o4, o5, o6⟩ := errW_zero h1
    have hv : watchR s bs l v = (strainS s bs l v nd, 0) := by simp [watchR, h1, hld]
    rw [hv]
    have hno : no = n := by have := okOffs_len o2; have := hs.len; have := hss.len; omega
    subst hno
    replace h1 := Lib.hid h1
    replace o6 := Lib.hid o6
    have hst := fun w' hb => strain_any s bs l v A O D V no c co nd cd nv cv w' o1 o2 o3 o4 o5 (hss.below (w' := w') hb) (hs.below hb) (hd.below hb) (hvv.below hb)
    clear hv
    generalize strainS s bs l v nd = p at *
    obtain ⟨p1, p2⟩ := p
    dsimp only at *
    replace hst := Lib.hid hst
    clear o1 o2 o3 o4 o5 hld
    go_enter Tryz.func11, Tryz.ntmps11
    go_wp2_with fail
    refine (watched_any s A O D V no c no co nd cd nv cv bs l v _ ((hss.alloc _).alloc _) ((hs.alloc _).alloc _) ((hd.alloc _).alloc _) ((hvv.alloc _).alloc _)).mono ?_
    rintro e w1 ⟨r1, r2, hb1⟩
    rw [h1.out] at r1
    obtain rfl := r1 o6.out
    clear r1 r2
    have k8 := (Blk.new _ _ _).below hb1
    rw [World.size_alloc] at k8
    have b1 := (((Below.refl w.heap.size w).alloc (Nat.le_refl _) _).alloc (by simp) _).trans (hb1.mono (by simp; omega))
    have b1a := b1.alloc b1.size (.cells #[.int .i64 s.head, .slice A no c, .int .i64 s.lane.lo, .int .i64 s.lane.hi, .int .i64 s.bend, .slice O no co] 104)
    have k8a := k8.alloc (.cells #[.int .i64 s.head, .slice A no c, .int .i64 s.lane.lo, .int .i64 s.lane.hi, .int .i64 s.bend, .slice O no co] 104)
    go_wp2_with fail
    refine (hst.out _ b1a).mono ?_
    rintro e w2 ⟨rfl, hb2⟩
    replace b1a := b1a.trans (hb2.mono b1a.size)
    replace k8a := k8a.below hb2
    clear k8 hb1 hb2 b1 hst hss hs hd hvv
    obtain ⟨c8, f8, l8⟩ := k8a.rules
    have k8z := (k8a.set_ 0 (.int .i64 p1)).set_ 1 (.int .i64 p2)
    have b2z := (b1a.setCell (p := ⟨w.heap.size + 1, 0, none⟩) (by dsimp only; omega) (.int .i64 p1)).setCell (p := ⟨w.heap.size + 1, 1, none⟩) (by dsimp only; omega) (.int .i64 p2)
    obtain ⟨wz, hwz⟩ : ∃ x, x = (w2.setCell ⟨w.heap.size + 1, 0, none⟩ (.int .i64 p1)).setCell ⟨w.heap.size + 1, 1, none⟩ (.int .i64 p2) := ⟨_, rfl⟩
    rw [← hwz] at k8z b2z
    go_wp2
    rw [← hwz]
    clear hwz c8 f8 l8
    obtain ⟨c8, f8, l8⟩ := k8z.rules
    exact bodyPost_ret (v := .tuple #[.agg #[.int .i64 p1, .int .i64 p2], .int .i64 0]) (by simp [results, Tryz.results11, go_sem, c8]) rfl ⟨rfl, b2z⟩
  · have hv : watchR s bs l v = ((0, 0), errW s bs l v) := by simp [watchR, h1]
    rw [hv]
    dsimp only
    have h1' : (errW s bs l v != 0) = true := by rw [bne_iff_ne]; exact h1
    replace h1 := Lib.hid h1
    clear hv hld
    by_cases h2 : errB s bs = 0
    · replace h2 := Lib.hid h2
      go_enter Tryz.func11, Tryz.ntmps11
      go_wp2_with fail
      refine (watched_any s A O D V n c no co nd cd nv cv bs l v _ ((hss.alloc _).alloc _) ((hs.alloc _).alloc _) ((hd.alloc _).alloc _) ((hvv.alloc _).alloc _)).mono ?_
      rintro e w1 ⟨r1, r2, hb1⟩
      obtain rfl := r1 h2.out
      clear r1 r2
      have k8 := (Blk.new _ _ _).below hb1
      rw [World.size_alloc] at k8
      have b1 := (((Below.refl w.heap.size w).alloc (Nat.le_refl _) _).alloc (by simp) _).trans (hb1.mono (by simp; omega))
      clear hb1 hss hs hd hvv
      obtain ⟨c8, f8, l8⟩ := k8.rules
      have k8z := ((k8.set_ 0 (.int .i64 0)).set_ 1 (.int .i64 0)).alloc (.cells #[.int .i64 s.head, .slice A n c, .int .i64 s.lane.lo, .int .i64 s.lane.hi, .int .i64 s.bend, .slice O no co] 104)
      have b2y := (b1.setCell (p := ⟨w.heap.size + 1, 0, none⟩) (by dsimp only; omega) (.int .i64 0)).setCell (p := ⟨w.heap.size + 1, 1, none⟩) (by dsimp only; omega) (.int .i64 0)
      have b2z := b2y.alloc b2y.size (.cells #[.int .i64 s.head, .slice A n c, .int .i64 s.lane.lo, .int .i64 s.lane.hi, .int .i64 s.bend, .slice O no co] 104)
      obtain ⟨wz, hwz⟩ : ∃ x, x = ((w1.setCell ⟨w.heap.size + 1, 0, none⟩ (.int .i64 0)).setCell ⟨w.heap.size + 1, 1, none⟩ (.int .i64 0)).alloc (.cells #[.int .i64 s.head, .slice A n c, .int .i64 s.lane.lo, .int .i64 s.lane.hi, .int .i64 s.bend, .slice O no co] 104) := ⟨_, rfl⟩
      rw [← hwz] at k8z b2z
      clear b2y k8 b1
      go_wp2
      rw [← hwz]
      clear hwz c8 f8 l8
      obtain ⟨c8, f8, l8⟩ := k8z.rules
      exact bodyPost_ret (v := .tuple #[.agg #[.int .i64 0, .int .i64 0], .int .i64 (errW s bs l v)]) (by simp [results, Tryz.results11, go_sem, c8]) rfl ⟨rfl, b2z⟩
    · replace h2 := Lib.hid h2
      go_enter Tryz.func11, Tryz.ntmps11
      go_wp2_with fail
      refine (watched_any s A O D V n c no co nd cd nv cv bs l v _ ((hss.alloc _).alloc _) ((hs.alloc _).alloc _) ((hd.alloc _).alloc _) ((hvv.alloc _).alloc _)).mono ?_
      rintro e w1 ⟨r1, r2, hb1⟩
      obtain rfl := r2 h2.out
      clear r1 r2
      have k8 := (Blk.new _ _ _).below hb1
      rw [World.size_alloc] at k8
      have b1 := (((Below.refl w.heap.size w).alloc (Nat.le_refl _) _).alloc (by simp) _).trans (hb1.mono (by simp; omega))
      clear hb1 hss hs hd hvv
      obtain ⟨c8, f8, l8⟩ := k8.rules
      have k8z := ((k8.set_ 0 (.int .i64 0)).set_ 1 (.int .i64 0)).alloc (.cells #[.int .i64 0, .slice none 0 0, .int .i64 0, .int .i64 0, .int .i64 0, .slice none 0 0] 104)
      have b2y := (b1.setCell (p := ⟨w.heap.size + 1, 0, none⟩) (by dsimp only; omega) (.int .i64 0)).setCell (p := ⟨w.heap.size + 1, 1, none⟩) (by dsimp only; omega) (.int .i64 0)
      have b2z := b2y.alloc b2y.size (.cells #[.int .i64 0, .slice none 0 0, .int .i64 0, .int .i64 0, .int .i64 0, .slice none 0 0] 104)
      obtain ⟨wz, hwz⟩ : ∃ x, x = ((w1.setCell ⟨w.heap.size + 1, 0, none⟩ (.int .i64 0)).setCell ⟨w.heap.size + 1, 1, none⟩ (.int .i64 0)).alloc (.cells #[.int .i64 0, .slice none 0 0, .int .i64 0, .int .i64 0, .int .i64 0, .slice none 0 0] 104) := ⟨_, rfl⟩
      rw [← hwz] at k8z b2z
      clear b2y k8 b1
      go_wp2
      rw [← hwz]
      clear hwz c8 f8 l8
      obtain ⟨c8, f8, l8⟩ := k8z.rules
      exact bodyPost_ret (v := .tuple #[.agg #[.int .i64 0, .int .i64 0], .int .i64 (errW s bs l v)]) (by simp [results, Tryz.results11, go_sem, c8]) rfl ⟨rfl, b2z⟩
set_option maxRecDepth 100000 in
set_option maxHeartbeats 1000000 in
theorem Keeps_any (s : Strm) (A O D V : Option Addr) (n c no co nd cd nv cv : Nat) (bs : List Bnd) (l : List Wat) (v : List Int) (w : World) (hss : SlAt w 0 5 Sec.cells A n c s.secs) (hs : SlAt w 0 2 Bnd.cells O no co bs) (hd : SlAt w 0 4 Wat.cells D nd cd l) (hvv : SlAt w 0 1 ivs V nv cv v) :
    Calls Tryz.prog 13 #[.agg #[.int .i64 s.head, .slice A n c, .int .i64 s.lane.lo, .int .i64 s.lane.hi, .int .i64 s.bend], .slice O no co, .slice D nd cd, .slice V nv cv] w fun e w' =>
      e = .returned (.tuple #[.bool (keepsR s bs l v).1, .int .i64 (keepsR s bs l v).2]) ∧ Below w.heap.size w w' := by
  by_cases h1 : errW s bs l v = 0
  · obtain ⟨o1, o2, o3, o4, o5, o6⟩ := errW_zero h1
    have hv : keepsR s bs l v = (keepsS s bs l v, 0) := by simp [keepsR, h1]
    rw [hv]
    have hno : no = n := by have := okOffs_len o2; have := hs.len; have := hss.len; omega
    subst hno
    replace h1 := Lib.hid h1
    replace o6 := Lib.hid o6
    have hst := fun w' hb => keeps_any s bs l v A O D V no c co nd cd nv cv w' o1 o2 o3 o4 o5 (hss.below (w' := w') hb) (hs.below hb) (hd.below hb) (hvv.below hb)
    clear hv
    dsimp only
    generalize keepsS s bs l v = p at *
    replace hst := Lib.hid hst
    clear o1 o2 o3 o4 o5
    go_enter Tryz.func13, Tryz.ntmps13
    go_wp2_with fail
    refine (watched_any s A O D V no c no co nd cd nv cv bs l v _ (hss.alloc _) (hs.alloc _) (hd.alloc _) (hvv.alloc _)).mono ?_
    rintro e w1 ⟨r1, r2, hb1⟩
    rw [h1.out] at r1
    obtain rfl := r1 o6.out
    clear r1 r2
    have b1 := ((Below.refl w.heap.size w).alloc (Nat.le_refl _) _).trans (hb1.mono (by simp))
    have b1a := b1.alloc b1.size (.cells #[.int .i64 s.head, .slice A no c, .int .i64 s.lane.lo, .int .i64 s.lane.hi, .int .i64 s.bend, .slice O no co] 104)
    go_wp2_with fail
    refine (hst.out _ b1a).mono ?_
    rintro e w2 ⟨rfl, hb2⟩
    replace b1a := b1a.trans (hb2.mono b1a.size)
    go_wp2
    go_ret2
    exact ⟨rfl, b1a⟩
  · have hv : keepsR s bs l v = (false, errW s bs l v) := by simp [keepsR, h1]
    rw [hv]
    dsimp only
    have h1' : (errW s bs l v != 0) = true := by rw [bne_iff_ne]; exact h1
    replace h1 := Lib.hid h1
    clear hv
    by_cases h2 : errB s bs = 0
    · replace h2 := Lib.hid h2
      go_enter Tryz.func13, Tryz.ntmps13
      go_wp2_with fail
      refine (watched_any s A O D V n c no co nd cd nv cv bs l v _ (hss.alloc _) (hs.alloc _) (hd.alloc _) (hvv.alloc _)).mono ?_
      rintro e w1 ⟨r1, r2, hb1⟩
      obtain rfl := r1 h2.out
      clear r1 r2
      have b1 := ((Below.refl w.heap.size w).alloc (Nat.le_refl _) _).trans (hb1.mono (by simp))
      go_wp2
      go_ret2
      exact ⟨rfl, b1.alloc b1.size _⟩
    · replace h2 := Lib.hid h2
      go_enter Tryz.func13, Tryz.ntmps13
      go_wp2_with fail
      refine (watched_any s A O D V n c no co nd cd nv cv bs l v _ (hss.alloc _) (hs.alloc _) (hd.alloc _) (hvv.alloc _)).mono ?_
      rintro e w1 ⟨r1, r2, hb1⟩
      obtain rfl := r2 h2.out
      clear r1 r2
      have b1 := ((Below.refl w.heap.size w).alloc (Nat.le_refl _) _).trans (hb1.mono (by simp))
      go_wp2
      go_ret2
      exact ⟨rfl, b1.alloc b1.size _⟩
end Go.Proofs.YtjiaepphnddpoaaGreat
