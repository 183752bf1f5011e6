/-
  Walks, ninth part: begun, watched, keeps, Watch, Keeps.
-/
import Derived.Test.YtjiaepphnddpoaaGreatW8
import Derived.Test.YtjiaepphnddpoaaGreatW5
import Derived.Deep.RegionHeld3
import Derived.Deep.RegionWith
namespace Go.Proofs.YtjiaepphnddpoaaGreat
open Go.RowKit Go.Shelf

def set6 (w : World) (g : Nat) (v0 v1 v2 v3 v4 v5 : Value) : World :=
  (((((w.setCell ⟨g, 0, none⟩ v0).setCell ⟨g, 1, none⟩ v1).setCell ⟨g, 2, none⟩ v2).setCell ⟨g, 3, none⟩ v3).setCell ⟨g, 4, none⟩ v4).setCell ⟨g, 5, none⟩ v5
theorem Blk.set6 {w : World} {g : Nat} {t : TypeId} {a0 a1 a2 a3 a4 a5 : Value} (h : Blk w g t #[a0, a1, a2, a3, a4, a5]) (v0 v1 v2 v3 v4 v5 : Value) : Blk (set6 w g v0 v1 v2 v3 v4 v5) g t #[v0, v1, v2, v3, v4, v5] :=
  (((((h.set_ 0 v0).set_ 1 v1).set_ 2 v2).set_ 3 v3).set_ 4 v4).set_ 5 v5
theorem below_set6 {B : Nat} {w0 w : World} {g : Nat} (h : Below B w0 w) (hg : B ≤ g) (v0 v1 v2 v3 v4 v5 : Value) : Below B w0 (set6 w g v0 v1 v2 v3 v4 v5) :=
  (((((h.setCell (p := ⟨g, 0, none⟩) hg v0).setCell (p := ⟨g, 1, none⟩) hg v1).setCell (p := ⟨g, 2, none⟩) hg v2).setCell (p := ⟨g, 3, none⟩) hg v3).setCell (p := ⟨g, 4, none⟩) hg v4).setCell (p := ⟨g, 5, none⟩) hg v5
def RetTow (s : Strm) (A O : Option Addr) (n c no co : Nat) (eb er : Int) (w : World) (e : Ending) (w' : World) : Prop :=
  (eb = 0 → e = .returned (.tuple #[.agg #[.int .i64 s.head, .slice A n c, .int .i64 s.lane.lo, .int .i64 s.lane.hi, .int .i64 s.bend, .slice O no co], .int .i64 er])) ∧
  (eb ≠ 0 → e = .returned (.tuple #[.agg #[.int .i64 0, .slice none 0 0, .int .i64 0, .int .i64 0, .int .i64 0, .slice none 0 0], .int .i64 er])) ∧ Below w.heap.size w w'
set_option maxRecDepth 100000 in
set_option maxHeartbeats 4000000 in
theorem begun_any (s : Strm) (A O D : Option Addr) (n c no co nd cd : Nat) (bs : List Bnd) (l : List Wat) (w : World) (hss : SlAt w 0 5 Sec.cells A n c s.secs) (hs : SlAt w 0 2 Bnd.cells O no co bs) (hd : SlAt w 0 4 Wat.cells D nd cd l) :
    Calls Tryz.prog 69 #[.agg #[.int .i64 s.head, .slice A n c, .int .i64 s.lane.lo, .int .i64 s.lane.hi, .int .i64 s.bend], .slice O no co, .slice D nd cd] w (RetTow s A O n c no co (errB s bs) (errBW s bs l) w) := by
  by_cases h1 : errB s bs = 0
  · have hv : errBW s bs l = chkWats l := by simp [errBW, h1]
    rw [hv]
    clear hv
    replace h1 := Lib.hid h1
    obtain ⟨er, her⟩ : ∃ er, er = chkWats l := ⟨_, rfl⟩
    rw [← her]
    go_enter Tryz.func69, Tryz.ntmps69
    go_wp2_with fail
    refine (checked_any s A O n c no co 0 0 bs _ ((hss.alloc _).alloc _) ((hs.alloc _).alloc _)).mono ?_
    rintro e w1 ⟨r1, -, hb1⟩
    obtain rfl := r1 h1.out
    clear r1
    have k6 := (Blk.new _ _ _).below hb1
    rw [World.size_alloc] at k6
    have b1 := (((Below.refl w.heap.size w).alloc (Nat.le_refl _) _).alloc (by simp) _).trans (hb1.mono (by simp; omega))
    have hd1 : SlAt w1 0 4 Wat.cells D nd cd l := ((hd.alloc _).alloc _).below hb1
    have k8 := Blk.new w1 102 #[.int .i64 s.head, .slice A n c, .int .i64 s.lane.lo, .int .i64 s.lane.hi, .int .i64 s.bend]
    have k6a := k6.alloc (.cells #[.int .i64 s.head, .slice A n c, .int .i64 s.lane.lo, .int .i64 s.lane.hi, .int .i64 s.bend] 102)
    have b1a := b1.alloc b1.size (.cells #[.int .i64 s.head, .slice A n c, .int .i64 s.lane.lo, .int .i64 s.lane.hi, .int .i64 s.bend] 102)
    have hda := hd1.alloc (.cells #[.int .i64 s.head, .slice A n c, .int .i64 s.lane.lo, .int .i64 s.lane.hi, .int .i64 s.bend] 102)
    go_wp2_with fail
    clear k6 b1 hd1 hb1
    generalize w1.alloc (.cells #[.int .i64 s.head, .slice A n c, .int .i64 s.lane.lo, .int .i64 s.lane.hi, .int .i64 s.bend] 102) = wa at *
    obtain ⟨c8, f8, l8⟩ := k8.rules
    have hwat := waters_any D nd cd 0 l _ hda.drew
    rw [← her] at hwat
    clear her hda
    go_region_with (first | (go_at_call 15; refine hwat.mono ?_; rintro e w' ⟨rfl, hbx⟩; replace hbx := below_of_drew hbx; have b2x := b1a.trans (hbx.mono b1a.size); have k6x := k6a.below hbx; replace k8 := k8.below hbx; clear c8 f8 l8; obtain ⟨c8, f8, l8⟩ := k8.rules; obtain ⟨c6, f6, l6⟩ := k6x.rules))
    all_goals
      clear hwat c8 f8 l8 c6 f6 l6
      have k6z := k6x.set6 (.int .i64 s.head) (.slice A n c) (.int .i64 s.lane.lo) (.int .i64 s.lane.hi) (.int .i64 s.bend) (.slice O no co)
      have b2z := below_set6 (g := w.heap.size + 1) b2x (by omega) (.int .i64 s.head) (.slice A n c) (.int .i64 s.lane.lo) (.int .i64 s.lane.hi) (.int .i64 s.bend) (.slice O no co)
      obtain ⟨wz, hwz⟩ : ∃ x, x = set6 w' (w.heap.size + 1) (.int .i64 s.head) (.slice A n c) (.int .i64 s.lane.lo) (.int .i64 s.lane.hi) (.int .i64 s.bend) (.slice O no co) := ⟨_, rfl⟩
      rw [← hwz] at k6z b2z
      simp only [set6] at hwz
      rw [← hwz]
      clear hwz
      go_wp2
      obtain ⟨c6, f6, l6⟩ := k6z.rules
      refine bodyPost_ret (v := .tuple #[.agg #[.int .i64 s.head, .slice A n c, .int .i64 s.lane.lo, .int .i64 s.lane.hi, .int .i64 s.bend, .slice O no co], .int .i64 er]) (by simp [results, Tryz.results69, go_sem, c6]) rfl ⟨fun _ => rfl, fun h => absurd h1.out h, b2z⟩
  · have hv : errBW s bs l = errB s bs := by simp [errBW, h1]
    rw [hv]
    clear hv
    have h1' : (errB s bs != 0) = true := by rw [bne_iff_ne]; exact h1
    go_enter Tryz.func69, Tryz.ntmps69
    go_wp2_with fail
    refine (checked_any s A O n c no co 0 0 bs _ ((hss.alloc _).alloc _) ((hs.alloc _).alloc _)).mono ?_
    rintro e w1 ⟨-, r2, hb1⟩
    obtain rfl := r2 h1
    clear r2
    have k6 := (Blk.new _ _ _).below hb1
    rw [World.size_alloc] at k6
    have b1 := (((Below.refl w.heap.size w).alloc (Nat.le_refl _) _).alloc (by simp) _).trans (hb1.mono (by simp; omega))
    obtain ⟨c6, f6, l6⟩ := k6.rules
    have b2y := below_set6 (g := w.heap.size + 1) b1 (by omega) (.int .i64 0) (.slice none 0 0) (.int .i64 0) (.int .i64 0) (.int .i64 0) (.slice none 0 0)
    have k6z := (k6.set6 (.int .i64 0) (.slice none 0 0) (.int .i64 0) (.int .i64 0) (.int .i64 0) (.slice none 0 0)).alloc (.cells #[.int .i64 0, .slice none 0 0, .int .i64 0, .int .i64 0, .int .i64 0] 102)
    have b2z := b2y.alloc b2y.size (.cells #[.int .i64 0, .slice none 0 0, .int .i64 0, .int .i64 0, .int .i64 0] 102)
    obtain ⟨wz, hwz⟩ : ∃ x, x = (set6 w1 (w.heap.size + 1) (.int .i64 0) (.slice none 0 0) (.int .i64 0) (.int .i64 0) (.int .i64 0) (.slice none 0 0)).alloc (.cells #[.int .i64 0, .slice none 0 0, .int .i64 0, .int .i64 0, .int .i64 0] 102) := ⟨_, rfl⟩
    rw [← hwz] at k6z b2z
    simp only [set6] at hwz
    go_wp2
    rw [← hwz]
    clear c6 f6 l6 hwz b2y
    obtain ⟨c6, f6, l6⟩ := k6z.rules
    refine bodyPost_ret (v := .tuple #[.agg #[.int .i64 0, .slice none 0 0, .int .i64 0, .int .i64 0, .int .i64 0, .slice none 0 0], .int .i64 (errB s bs)]) (by simp [results, Tryz.results69, go_sem, c6]) rfl ⟨fun h => absurd h h1, fun _ => rfl, b2z⟩
/-! watched -/
theorem errBW_zero {s : Strm} {bs : List Bnd} {l : List Wat} (h : errBW s bs l = 0) : errB s bs = 0 ∧ okWats l = true := by
  unfold errBW at h
  split at h
  · rename_i h1
    refine ⟨h1, ?_⟩
    unfold chkWats at h
    split at h
    · assumption
    · omega
  · exact absurd h (by assumption)
set_option maxRecDepth 100000 in
set_option maxHeartbeats 2000000 in
theorem watched_any (s : Strm) (A O D V : Option Addr) (n c no co nd cd nv cv : Nat) (bs : List Bnd) (l : List Wat) (v : List Int) (w : World) (hss : SlAt w 0 5 Sec.cells A n c s.secs) (hs : SlAt w 0 2 Bnd.cells O no co bs) (hd : SlAt w 0 4 Wat.cells D nd cd l) (hvv : SlAt w 0 1 ivs V nv cv v) :
    Calls Tryz.prog 48 #[.agg #[.int .i64 s.head, .slice A n c, .int .i64 s.lane.lo, .int .i64 s.lane.hi, .int .i64 s.bend], .slice O no co, .slice D nd cd, .slice V nv cv] w (RetTow s A O n c no co (errB s bs) (errW s bs l v) w) := by
  have hld := hd.len
  have hlv := hvv.len
  by_cases h1 : errBW s bs l = 0
  · obtain ⟨h2, h3⟩ := errBW_zero h1
    have hev : errW s bs l v = if nv = nd ∧ okSpeeds v = true then 0 else 34 := by simp [errW, h1, hld, hlv]
    rw [hev, h2]
    clear hev hld hlv
    replace h1 := Lib.hid h1
    replace h2 := Lib.hid h2
    clear h3
    by_cases h4 : nv = nd
    · subst h4
      obtain ⟨sp, hsp⟩ : ∃ sp, sp = okSpeeds v := ⟨_, rfl⟩
      rw [← hsp]
      cases sp with
      | false =>
        rw [show (if nv = nv ∧ (false : Bool) = true then (0 : Int) else 34) = 34 by simp]
        replace hsp := Lib.hid hsp
        go_enter Tryz.func48, Tryz.ntmps48
        go_wp2_with fail
        refine (begun_any s A O D n c no co nv cd bs l _ ((hss.alloc _).alloc _) ((hs.alloc _).alloc _) ((hd.alloc _).alloc _)).mono ?_
        rintro e w1 ⟨r1, r2, hb1⟩
        have k8 := (Blk.new _ _ _).below hb1
        rw [World.size_alloc] at k8
        have b1 := (((Below.refl w.heap.size w).alloc (Nat.le_refl _) _).alloc (by simp) _).trans (hb1.mono (by simp; omega))
        rw [h1.out] at r1
        obtain rfl := r1 h2.out
        obtain ⟨c8, f8, l8⟩ := k8.rules
        clear r1 r2
        have hv1 := ((hvv.alloc _).alloc _).below hb1
        have b1a := b1.alloc b1.size (.cells #[.int .i64 s.head, .slice A n c, .int .i64 s.lane.lo, .int .i64 s.lane.hi, .int .i64 s.bend, .slice O no co] 104)
        have k10 := Blk.new w1 104 #[.int .i64 s.head, .slice A n c, .int .i64 s.lane.lo, .int .i64 s.lane.hi, .int .i64 s.bend, .slice O no co]
        have k8a := k8.alloc (.cells #[.int .i64 s.head, .slice A n c, .int .i64 s.lane.lo, .int .i64 s.lane.hi, .int .i64 s.bend, .slice O no co] 104)
        have hv2 := hv1.alloc (.cells #[.int .i64 s.head, .slice A n c, .int .i64 s.lane.lo, .int .i64 s.lane.hi, .int .i64 s.bend, .slice O no co] 104)
        go_wp2_with fail
        refine (speeds_any V nv cv 0 v _ hv2).mono ?_
        rw [← hsp.out]
        rintro e w2 ⟨rfl, hb2⟩
        clear c8 f8 l8
        replace b1a := b1a.trans (hb2.mono b1a.size)
        replace k10 := k10.below hb2
        replace k8a := k8a.below hb2
        have b2z := below_set6 (g := w.heap.size + 1) b1a (by omega) (.int .i64 s.head) (.slice A n c) (.int .i64 s.lane.lo) (.int .i64 s.lane.hi) (.int .i64 s.bend) (.slice O no co)
        have k8z := k8a.set6 (.int .i64 s.head) (.slice A n c) (.int .i64 s.lane.lo) (.int .i64 s.lane.hi) (.int .i64 s.bend) (.slice O no co)
        obtain ⟨wz, hwz⟩ : ∃ x, x = (set6 w2 (w.heap.size + 1) (.int .i64 s.head) (.slice A n c) (.int .i64 s.lane.lo) (.int .i64 s.lane.hi) (.int .i64 s.bend) (.slice O no co)) := ⟨_, rfl⟩
        rw [← hwz] at k8z b2z
        simp only [set6] at hwz
        obtain ⟨c8, f8, l8⟩ := k8a.rules
        obtain ⟨c10, f10, l10⟩ := k10.rules
        clear k8 k8a k10 b1 hb1 hb2 hv1 hv2
        go_wp2
        rw [← hwz]
        clear hwz c8 f8 l8 c10 f10 l10
        obtain ⟨c8, f8, l8⟩ := k8z.rules
        refine bodyPost_ret (v := .tuple #[.agg #[.int .i64 s.head, .slice A n c, .int .i64 s.lane.lo, .int .i64 s.lane.hi, .int .i64 s.bend, .slice O no co], .int .i64 34]) (by simp [results, Tryz.results48, go_sem, c8]) rfl ⟨fun _ => rfl, fun h => absurd rfl h, b2z⟩
      | true =>
        rw [show (if nv = nv ∧ (true : Bool) = true then (0 : Int) else 34) = 0 by simp]
        replace hsp := Lib.hid hsp
        go_enter Tryz.func48, Tryz.ntmps48
        go_wp2_with fail
        refine (begun_any s A O D n c no co nv cd bs l _ ((hss.alloc _).alloc _) ((hs.alloc _).alloc _) ((hd.alloc _).alloc _)).mono ?_
        rintro e w1 ⟨r1, r2, hb1⟩
        have k8 := (Blk.new _ _ _).below hb1
        rw [World.size_alloc] at k8
        have b1 := (((Below.refl w.heap.size w).alloc (Nat.le_refl _) _).alloc (by simp) _).trans (hb1.mono (by simp; omega))
        rw [h1.out] at r1
        obtain rfl := r1 h2.out
        obtain ⟨c8, f8, l8⟩ := k8.rules
        clear r1 r2
        have hv1 := ((hvv.alloc _).alloc _).below hb1
        have b1a := b1.alloc b1.size (.cells #[.int .i64 s.head, .slice A n c, .int .i64 s.lane.lo, .int .i64 s.lane.hi, .int .i64 s.bend, .slice O no co] 104)
        have k10 := Blk.new w1 104 #[.int .i64 s.head, .slice A n c, .int .i64 s.lane.lo, .int .i64 s.lane.hi, .int .i64 s.bend, .slice O no co]
        have k8a := k8.alloc (.cells #[.int .i64 s.head, .slice A n c, .int .i64 s.lane.lo, .int .i64 s.lane.hi, .int .i64 s.bend, .slice O no co] 104)
        have hv2 := hv1.alloc (.cells #[.int .i64 s.head, .slice A n c, .int .i64 s.lane.lo, .int .i64 s.lane.hi, .int .i64 s.bend, .slice O no co] 104)
        go_wp2_with fail
        refine (speeds_any V nv cv 0 v _ hv2).mono ?_
        rw [← hsp.out]
        rintro e w2 ⟨rfl, hb2⟩
        clear c8 f8 l8
        replace b1a := b1a.trans (hb2.mono b1a.size)
        replace k10 := k10.below hb2
        replace k8a := k8a.below hb2
        have b2z := below_set6 (g := w.heap.size + 1) b1a (by omega) (.int .i64 s.head) (.slice A n c) (.int .i64 s.lane.lo) (.int .i64 s.lane.hi) (.int .i64 s.bend) (.slice O no co)
        have k8z := k8a.set6 (.int .i64 s.head) (.slice A n c) (.int .i64 s.lane.lo) (.int .i64 s.lane.hi) (.int .i64 s.bend) (.slice O no co)
        obtain ⟨wz, hwz⟩ : ∃ x, x = (set6 w2 (w.heap.size + 1) (.int .i64 s.head) (.slice A n c) (.int .i64 s.lane.lo) (.int .i64 s.lane.hi) (.int .i64 s.bend) (.slice O no co)) := ⟨_, rfl⟩
        rw [← hwz] at k8z b2z
        simp only [set6] at hwz
        obtain ⟨c8, f8, l8⟩ := k8a.rules
        obtain ⟨c10, f10, l10⟩ := k10.rules
        clear k8 k8a k10 b1 hb1 hb2 hv1 hv2
        go_wp2
        rw [← hwz]
        clear hwz c8 f8 l8 c10 f10 l10
        obtain ⟨c8, f8, l8⟩ := k8z.rules
        refine bodyPost_ret (v := .tuple #[.agg #[.int .i64 s.head, .slice A n c, .int .i64 s.lane.lo, .int .i64 s.lane.hi, .int .i64 s.bend, .slice O no co], .int .i64 0]) (by simp [results, Tryz.results48, go_sem, c8]) rfl ⟨fun _ => rfl, fun h => absurd rfl h, b2z⟩
    · rw [if_neg (fun h => h4 h.1)]
      have h4' : ¬ ((nv : Int) = (nd : Int)) := by omega
      go_enter Tryz.func48, Tryz.ntmps48
      go_wp2_with fail
      refine (begun_any s A O D n c no co nd cd bs l _ ((hss.alloc _).alloc _) ((hs.alloc _).alloc _) ((hd.alloc _).alloc _)).mono ?_
      rintro e w1 ⟨r1, r2, hb1⟩
      have k8 := (Blk.new _ _ _).below hb1
      rw [World.size_alloc] at k8
      have b1 := (((Below.refl w.heap.size w).alloc (Nat.le_refl _) _).alloc (by simp) _).trans (hb1.mono (by simp; omega))
      rw [h1.out] at r1
      obtain rfl := r1 h2.out
      have b2y := below_set6 (g := w.heap.size + 1) b1 (by omega) (.int .i64 s.head) (.slice A n c) (.int .i64 s.lane.lo) (.int .i64 s.lane.hi) (.int .i64 s.bend) (.slice O no co)
      have k8z := (k8.set6 (.int .i64 s.head) (.slice A n c) (.int .i64 s.lane.lo) (.int .i64 s.lane.hi) (.int .i64 s.bend) (.slice O no co)).alloc (.cells #[.int .i64 s.head, .slice A n c, .int .i64 s.lane.lo, .int .i64 s.lane.hi, .int .i64 s.bend, .slice O no co] 104)
      have b2z := b2y.alloc b2y.size (.cells #[.int .i64 s.head, .slice A n c, .int .i64 s.lane.lo, .int .i64 s.lane.hi, .int .i64 s.bend, .slice O no co] 104)
      obtain ⟨wz, hwz⟩ : ∃ x, x = (set6 w1 (w.heap.size + 1) (.int .i64 s.head) (.slice A n c) (.int .i64 s.lane.lo) (.int .i64 s.lane.hi) (.int .i64 s.bend) (.slice O no co)).alloc (.cells #[.int .i64 s.head, .slice A n c, .int .i64 s.lane.lo, .int .i64 s.lane.hi, .int .i64 s.bend, .slice O no co] 104) := ⟨_, rfl⟩
      rw [← hwz] at k8z b2z
      simp only [set6] at hwz
      obtain ⟨c8, f8, l8⟩ := k8.rules
      clear k8 b2y r1 r2 b1 hss hs hd hvv hb1
      go_wp2
      rw [← hwz]
      clear hwz c8 f8 l8
      obtain ⟨c8, f8, l8⟩ := k8z.rules
      refine bodyPost_ret (v := .tuple #[.agg #[.int .i64 s.head, .slice A n c, .int .i64 s.lane.lo, .int .i64 s.lane.hi, .int .i64 s.bend, .slice O no co], .int .i64 (34)]) (by simp [results, Tryz.results48, go_sem, c8]) rfl ⟨fun _ => rfl, fun h => absurd rfl h, b2z⟩
  · have hev : errW s bs l v = errBW s bs l := by simp [errW, h1]
    rw [hev]
    clear hev hld hlv
    have h1' : (errBW s bs l != 0) = true := by rw [bne_iff_ne]; exact h1
    obtain ⟨er, her⟩ : ∃ er, er = errBW s bs l := ⟨_, rfl⟩
    by_cases h2 : errB s bs = 0
    · replace h2 := Lib.hid h2
      go_enter Tryz.func48, Tryz.ntmps48
      go_wp2_with fail
      refine (begun_any s A O D n c no co nd cd bs l _ ((hss.alloc _).alloc _) ((hs.alloc _).alloc _) ((hd.alloc _).alloc _)).mono ?_
      rintro e w1 ⟨r1, r2, hb1⟩
      have k8 := (Blk.new _ _ _).below hb1
      rw [World.size_alloc] at k8
      have b1 := (((Below.refl w.heap.size w).alloc (Nat.le_refl _) _).alloc (by simp) _).trans (hb1.mono (by simp; omega))
      obtain rfl := r1 h2.out
      have b2y := below_set6 (g := w.heap.size + 1) b1 (by omega) (.int .i64 s.head) (.slice A n c) (.int .i64 s.lane.lo) (.int .i64 s.lane.hi) (.int .i64 s.bend) (.slice O no co)
      have k8z := (k8.set6 (.int .i64 s.head) (.slice A n c) (.int .i64 s.lane.lo) (.int .i64 s.lane.hi) (.int .i64 s.bend) (.slice O no co)).alloc (.cells #[.int .i64 s.head, .slice A n c, .int .i64 s.lane.lo, .int .i64 s.lane.hi, .int .i64 s.bend, .slice O no co] 104)
      have b2z := b2y.alloc b2y.size (.cells #[.int .i64 s.head, .slice A n c, .int .i64 s.lane.lo, .int .i64 s.lane.hi, .int .i64 s.bend, .slice O no co] 104)
      obtain ⟨wz, hwz⟩ : ∃ x, x = (set6 w1 (w.heap.size + 1) (.int .i64 s.head) (.slice A n c) (.int .i64 s.lane.lo) (.int .i64 s.lane.hi) (.int .i64 s.bend) (.slice O no co)).alloc (.cells #[.int .i64 s.head, .slice A n c, .int .i64 s.lane.lo, .int .i64 s.lane.hi, .int .i64 s.bend, .slice O no co] 104) := ⟨_, rfl⟩
      rw [← hwz] at k8z b2z
      simp only [set6] at hwz
      obtain ⟨c8, f8, l8⟩ := k8.rules
      clear k8 b2y r1 r2 b1 hss hs hd hvv hb1
      go_wp2
      rw [← hwz]
      clear hwz c8 f8 l8
      obtain ⟨c8, f8, l8⟩ := k8z.rules
      refine bodyPost_ret (v := .tuple #[.agg #[.int .i64 s.head, .slice A n c, .int .i64 s.lane.lo, .int .i64 s.lane.hi, .int .i64 s.bend, .slice O no co], .int .i64 (errBW s bs l)]) (by simp [results, Tryz.results48, go_sem, c8]) rfl ⟨fun _ => rfl, fun h => absurd h2.out h, b2z⟩
    · replace h2 := Lib.hid h2
      go_enter Tryz.func48, Tryz.ntmps48
      go_wp2_with fail
      refine (begun_any s A O D n c no co nd cd bs l _ ((hss.alloc _).alloc _) ((hs.alloc _).alloc _) ((hd.alloc _).alloc _)).mono ?_
      rintro e w1 ⟨r1, r2, hb1⟩
      have k8 := (Blk.new _ _ _).below hb1
      rw [World.size_alloc] at k8
      have b1 := (((Below.refl w.heap.size w).alloc (Nat.le_refl _) _).alloc (by simp) _).trans (hb1.mono (by simp; omega))
      obtain rfl := r2 h2.out
      have b2y := below_set6 (g := w.heap.size + 1) b1 (by omega) (.int .i64 0) (.slice none 0 0) (.int .i64 0) (.int .i64 0) (.int .i64 0) (.slice none 0 0)
      have k8z := (k8.set6 (.int .i64 0) (.slice none 0 0) (.int .i64 0) (.int .i64 0) (.int .i64 0) (.slice none 0 0)).alloc (.cells #[.int .i64 0, .slice none 0 0, .int .i64 0, .int .i64 0, .int .i64 0, .slice none 0 0] 104)
      have b2z := b2y.alloc b2y.size (.cells #[.int .i64 0, .slice none 0 0, .int .i64 0, .int .i64 0, .int .i64 0, .slice none 0 0] 104)
      obtain ⟨wz, hwz⟩ : ∃ x, x = (set6 w1 (w.heap.size + 1) (.int .i64 0) (.slice none 0 0) (.int .i64 0) (.int .i64 0) (.int .i64 0) (.slice none 0 0)).alloc (.cells #[.int .i64 0, .slice none 0 0, .int .i64 0, .int .i64 0, .int .i64 0, .slice none 0 0] 104) := ⟨_, rfl⟩
      rw [← hwz] at k8z b2z
      simp only [set6] at hwz
      obtain ⟨c8, f8, l8⟩ := k8.rules
      clear k8 b2y r1 r2 b1 hss hs hd hvv hb1
      go_wp2
      rw [← hwz]
      clear hwz c8 f8 l8
      obtain ⟨c8, f8, l8⟩ := k8z.rules
      refine bodyPost_ret (v := .tuple #[.agg #[.int .i64 0, .slice none 0 0, .int .i64 0, .int .i64 0, .int .i64 0, .slice none 0 0], .int .i64 (errBW s bs l)]) (by simp [results, Tryz.results48, go_sem, c8]) rfl ⟨fun h => absurd h h2.out, fun _ => rfl, b2z⟩
end Go.Proofs.YtjiaepphnddpoaaGreat
