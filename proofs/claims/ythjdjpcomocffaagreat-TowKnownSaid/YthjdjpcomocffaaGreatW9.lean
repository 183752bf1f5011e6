/-
  A map from pairs of numbers to truth values that the call made itself.
  Walks, ninth part: begun, watched, keeps, Watch, Keeps.
  Walks, tenth part: keeps, Watch, Keeps.
-/
import Derived.Test.YthjdjpcomocffaaGreatW7
import Derived.Maps.Own
import Derived.Maps.Views
import Derived.WideKeyPair
import Derived.Carry
import Derived.Test.YthjdjpcomocffaaGreatW5
import Derived.Deep.RegionHeld3
import Derived.Deep.RegionWith
namespace Go.Proofs.YthjdjpcomocffaaGreat
set_option linter.unusedSimpArgs false
set_option linter.unusedVariables false
open Go.RowKit Go.Shelf

theorem arr2 : WideMaps.ArrKey Tryz.prog 96 3 2 := ⟨by kernel_rfl, by kernel_rfl, by kernel_rfl, by kernel_rfl⟩
theorem keyed2 : Maps.Keyed Tryz.prog 96 := Maps.Keyed.of_law arr2.law
def kl (i k : Int) : Lit := .string (keyBytes [.int .i64 i, .int .i64 k])
theorem underInt : Tryz.prog.underlying 3 = some (.int .i64) := by kernel_rfl
theorem underBool : Tryz.prog.underlying 4 = some .bool := by kernel_rfl
theorem underMap2 : Tryz.prog.underlying 91 = some (.map 96 4) := by kernel_rfl
def small (i : Int) : Prop := -1000000 ≤ i ∧ i ≤ 1000000
theorem small_wf {i : Int} (h : small i) : (Lit.int .i64 i).wf = true := by
  obtain ⟨h1, h2⟩ := h
  simp only [Lit.wf, IntKind.min, IntKind.max, IntKind.signed, IntKind.bits, Bool.and_eq_true, decide_eq_true_eq, if_true]
  omega
theorem types_pos : ∃ m, Tryz.prog.types.size = m + 1 := ⟨Tryz.prog.types.size - 1, by
  have h : (0 < Tryz.prog.types.size) = True := eq_true (of_decide_eq_true (by kernel_rfl))
  have := of_eq_true h
  omega⟩
theorem keyOf_kl {i k : Int} (hi : small i) (hk : small k) : keyOf Tryz.prog 96 (.agg #[.int .i64 i, .int .i64 k]) = some (kl i k) :=
  WideMaps.keyOf_pair arr2 underInt types_pos (small_wf hi) (small_wf hk)
theorem kl_inj {i k i' k' : Int} (hi : small i) (hk : small k) (hi' : small i') (hk' : small k') (h : kl i k = kl i' k') : i = i' ∧ k = k' := by
  have := keyed2.inj (keyOf_kl hi hk) (h ▸ keyOf_kl hi' hk')
  simpa using this
theorem kl_key (i k : Int) : WideAt.IsKeyLit (kl i k) := trivial

/-! The map at block b says f. -/
def KMap (w : World) (b n : Nat) (f : Nat → Nat → Bool) : Prop :=
  ∃ D : DataW Unit, w.ownsMap Tryz.prog 96 (plainElem Tryz.prog 4) b n D ∧ Maps.IsMap D ∧ ∀ i k : Nat, i ≤ 1000000 → k ≤ 1000000 → D.atKey (kl i k) (.lit (.bool false)) = .lit (.bool (f i k))
theorem small_nat {i : Nat} (h : i ≤ 1000000) : small (i : Int) := ⟨by omega, by omega⟩

theorem kmap_made (w : World) : KMap (w.alloc (.map #[] 0)) w.heap.size 0 (fun _ _ => false) :=
  ⟨.map [], World.ownsMap_made _ _ _ _, Maps.isMap_empty, fun _ _ _ _ => rfl⟩
theorem KMap.lt {w : World} {b n : Nat} {f : Nat → Nat → Bool} (h : KMap w b n f) : b < w.heap.size := let ⟨_, h, _⟩ := h; h.lt
theorem KMap.block {w w' : World} {b n : Nat} {f : Nat → Nat → Bool} (h : KMap w b n f) (e : w'.heap[b]? = w.heap[b]?) : KMap w' b n f := by
  obtain ⟨D, ⟨es, clock, hb, r⟩, h2⟩ := h
  exact ⟨D, ⟨es, clock, e.trans hb, r⟩, h2⟩
theorem KMap.below {w w' : World} {b n : Nat} {f : Nat → Nat → Bool} (h : KMap w b n f) (hb : Below w.heap.size w w') : KMap w' b n f := h.block (hb.block b h.lt)
theorem KMap.look {w : World} {b n : Nat} {f : Nat → Nat → Bool} (h : KMap w b n f) {i k : Nat} (hi : i ≤ 1000000) (hk : k ≤ 1000000) :
    (Instr.lookup 91 (.map (some b)) (.agg #[.int .i64 i, .int .i64 k]) false).run Tryz.prog w = .ok (.bool (f i k)) w := by
  obtain ⟨D, ho, hm, hat⟩ := h
  obtain ⟨v, ps, hrun, hR⟩ := ho.lookup keyed2 underMap2 (z := .bool false) (by kernel_rfl) (plainElem_bool underBool false) (keyOf_kl (small_nat hi) (small_nat hk))
  rw [hat i k hi hk] at hR
  rw [hrun]
  unfold plainElem at hR
  rw [underBool] at hR
  cases v <;> simp at hR
  simp [hR]
theorem KMap.put {w w0' : World} {b n : Nat} {f : Nat → Nat → Bool} {i k : Nat} {x : Bool} (h : KMap w b n f) (hi : i ≤ 1000000) (hk : k ≤ 1000000) :
    ∃ D : DataW Unit, w.ownsMap Tryz.prog 96 (plainElem Tryz.prog 4) b n D ∧ ∀ w', w'.ownsMap Tryz.prog 96 (plainElem Tryz.prog 4) b (n + 1) (D.put (kl i k) (.lit (.bool x))) → KMap w' b (n + 1) (fun i' k' => if i' = i ∧ k' = k then x else f i' k') := by
  obtain ⟨D, ho, hm, hat⟩ := h
  refine ⟨D, ho, fun w' ho' => ⟨_, ho', ?_, fun i' k' hi' hk' => ?_⟩⟩
  · obtain ⟨es, rfl⟩ := hm
    exact ⟨_, rfl⟩
  · by_cases e : i' = i ∧ k' = k
    · obtain ⟨rfl, rfl⟩ := e
      rw [Maps.atKey_put_same hm (kl_key _ _)]
      simp
    · rw [Maps.atKey_put_other (fun h => e (by
        obtain ⟨h1, h2⟩ := kl_inj (small_nat hi') (small_nat hk') (small_nat hi) (small_nat hk) h
        exact ⟨by omega, by omega⟩))]
      simp only [if_neg e]
      exact hat i' k' hi' hk'
end Go.Proofs.YthjdjpcomocffaaGreat
namespace Go.Proofs.YthjdjpcomocffaaGreat
open Go.RowKit Go.Shelf

def set6 (w : World) (g : Nat) (v0 v1 v2 v3 v4 v5 : Value) : World :=
  (((((w.setCell ⟨g, 0, none⟩ v0).setCell ⟨g, 1, none⟩ v1).setCell ⟨g, 2, none⟩ v2).setCell ⟨g, 3, none⟩ v3).setCell ⟨g, 4, none⟩ v4).setCell ⟨g, 5, none⟩ v5
theorem Blk.set6 {w : World} {g : Nat} {t : TypeId} {a0 a1 a2 a3 a4 a5 : Value} (h : Blk w g t #[a0, a1, a2, a3, a4, a5]) (v0 v1 v2 v3 v4 v5 : Value) : Blk (set6 w g v0 v1 v2 v3 v4 v5) g t #[v0, v1, v2, v3, v4, v5] :=
  (((((h.set_ 0 v0).set_ 1 v1).set_ 2 v2).set_ 3 v3).set_ 4 v4).set_ 5 v5
theorem below_set6 {B : Nat} {w0 w : World} {g : Nat} (h : Below B w0 w) (hg : B ≤ g) (v0 v1 v2 v3 v4 v5 : Value) : Below B w0 (set6 w g v0 v1 v2 v3 v4 v5) :=
  (((((h.setCell (p := ⟨g, 0, none⟩) hg v0).setCell (p := ⟨g, 1, none⟩) hg v1).setCell (p := ⟨g, 2, none⟩) hg v2).setCell (p := ⟨g, 3, none⟩) hg v3).setCell (p := ⟨g, 4, none⟩) hg v4).setCell (p := ⟨g, 5, none⟩) hg v5
def RetTow (s : Strm) (A O : Option Addr) (n c no co : Nat) (eb er : Int) (w : World) (e : Ending) (w' : World) : Prop :=
  (eb = 0 → e = .returned (.tuple #[.agg #[.int .i64 s.head, .slice A n c, .int .i64 s.lane.lo, .int .i64 s.lane.hi, .int .i64 s.bend, .slice O no co], .int .i64 er])) ∧
  (eb ≠ 0 → e = .returned (.tuple #[.agg #[.int .i64 0, .slice none 0 0, .int .i64 0, .int .i64 0, .int .i64 0, .slice none 0 0], .int .i64 er])) ∧ Below w.heap.size w w'
set_option maxRecDepth 100000 in
set_option maxHeartbeats 4000000 in
theorem begun_any (s : Strm) (A O D : Option Addr) (n c no co nd cd : Nat) (bs : List Bnd) (l : List Wat) (w : World) (hss : SlAt w 0 5 Sec.cells A n c s.secs) (hs : SlAt w 0 2 Bnd.cells O no co bs) (hd : SlAt w 0 4 Wat.cells D nd cd l) :
    Calls Tryz.prog 34 #[.agg #[.int .i64 s.head, .slice A n c, .int .i64 s.lane.lo, .int .i64 s.lane.hi, .int .i64 s.bend], .slice O no co, .slice D nd cd] w (RetTow s A O n c no co (errB s bs) (errBW s bs l) w) := by
  by_cases h1 : errB s bs = 0
  · have hv : errBW s bs l = chkWats l := by simp [errBW, h1]
    rw [hv]
    clear hv
    replace h1 := Lib.hid h1
    obtain ⟨er, her⟩ : ∃ er, er = chkWats l := ⟨_, rfl⟩
    rw [← her]
    go_enter Tryz.func34, Tryz.ntmps34
    go_wp2_with fail
    refine (checked_any s A O n c no co 0 0 bs _ ((hss.alloc _).alloc _) ((hs.alloc _).alloc _)).mono ?_
    rintro e w1 ⟨r1, -, hb1⟩
    obtain rfl := r1 h1.out
    clear r1
    have k6 := (Blk.new _ _ _).below hb1
    rw [World.size_alloc] at k6
    have b1 := (((Below.refl w.heap.size w).alloc (Nat.le_refl _) _).alloc (by simp) _).trans (hb1.mono (by simp; omega))
    have hd1 : SlAt w1 0 4 Wat.cells D nd cd l := ((hd.alloc _).alloc _).below hb1
    have k8 := Blk.new w1 74 #[.int .i64 s.head, .slice A n c, .int .i64 s.lane.lo, .int .i64 s.lane.hi, .int .i64 s.bend]
    have k6a := k6.alloc (.cells #[.int .i64 s.head, .slice A n c, .int .i64 s.lane.lo, .int .i64 s.lane.hi, .int .i64 s.bend] 74)
    have b1a := b1.alloc b1.size (.cells #[.int .i64 s.head, .slice A n c, .int .i64 s.lane.lo, .int .i64 s.lane.hi, .int .i64 s.bend] 74)
    have hda := hd1.alloc (.cells #[.int .i64 s.head, .slice A n c, .int .i64 s.lane.lo, .int .i64 s.lane.hi, .int .i64 s.bend] 74)
    go_wp2_with fail
    clear k6 b1 hd1 hb1
    generalize w1.alloc (.cells #[.int .i64 s.head, .slice A n c, .int .i64 s.lane.lo, .int .i64 s.lane.hi, .int .i64 s.bend] 74) = wa at *
    obtain ⟨c8, f8, l8⟩ := k8.rules
    have hwat := waters_any D nd cd 0 l _ hda.drew
    rw [← her] at hwat
    clear her hda
    go_region_with (first | (go_at_call 50; refine hwat.mono ?_; rintro e w' ⟨rfl, hbx⟩; replace hbx := below_of_drew hbx; have b2x := b1a.trans (hbx.mono b1a.size); have k6x := k6a.below hbx; replace k8 := k8.below hbx; clear c8 f8 l8; obtain ⟨c8, f8, l8⟩ := k8.rules; obtain ⟨c6, f6, l6⟩ := k6x.rules))
    all_goals
      clear hwat c8 f8 l8 c6 f6 l6
      have k6z := k6x.set6 (.int .i64 s.head) (.slice A n c) (.int .i64 s.lane.lo) (.int .i64 s.lane.hi) (.int .i64 s.bend) (.slice O no co)
      have b2z := below_set6 (g := w.heap.size + 1) b2x (by omega) (.int .i64 s.head) (.slice A n c) (.int .i64 s.lane.lo) (.int .i64 s.lane.hi) (.int .i64 s.bend) (.slice O no co)
      obtain ⟨wz, hwz⟩ : ∃ x, x = set6 w' (w.heap.size + 1) (.int .i64 s.head) (.slice A n c) (.int .i64 s.lane.lo) (.int .i64 s.lane.hi) (.int .i64 s.bend) (.slice O no co) := ⟨_, rfl⟩
      rw [← hwz] at k6z b2z
      simp only [set6] at hwz
      rw [← hwz]
      clear hwz
      go_wp2
      obtain ⟨c6, f6, l6⟩ := k6z.rules
      refine bodyPost_ret (v := .tuple #[.agg #[.int .i64 s.head, .slice A n c, .int .i64 s.lane.lo, .int .i64 s.lane.hi, .int .i64 s.bend, .slice O no co], .int .i64 er]) (by simp [results, Tryz.results34, go_sem, c6]) rfl ⟨fun _ => rfl, fun h => absurd h1.out h, b2z⟩
  · have hv : errBW s bs l = errB s bs := by simp [errBW, h1]
    rw [hv]
    clear hv
    have h1' : (errB s bs != 0) = true := by rw [bne_iff_ne]; exact h1
    go_enter Tryz.func34, Tryz.ntmps34
    go_wp2_with fail
    refine (checked_any s A O n c no co 0 0 bs _ ((hss.alloc _).alloc _) ((hs.alloc _).alloc _)).mono ?_
    rintro e w1 ⟨-, r2, hb1⟩
    obtain rfl := r2 h1
    clear r2
    have k6 := (Blk.new _ _ _).below hb1
    rw [World.size_alloc] at k6
    have b1 := (((Below.refl w.heap.size w).alloc (Nat.le_refl _) _).alloc (by simp) _).trans (hb1.mono (by simp; omega))
    obtain ⟨c6, f6, l6⟩ := k6.rules
    have b2y := below_set6 (g := w.heap.size + 1) b1 (by omega) (.int .i64 0) (.slice none 0 0) (.int .i64 0) (.int .i64 0) (.int .i64 0) (.slice none 0 0)
    have k6z := (k6.set6 (.int .i64 0) (.slice none 0 0) (.int .i64 0) (.int .i64 0) (.int .i64 0) (.slice none 0 0)).alloc (.cells #[.int .i64 0, .slice none 0 0, .int .i64 0, .int .i64 0, .int .i64 0] 74)
    have b2z := b2y.alloc b2y.size (.cells #[.int .i64 0, .slice none 0 0, .int .i64 0, .int .i64 0, .int .i64 0] 74)
    obtain ⟨wz, hwz⟩ : ∃ x, x = (set6 w1 (w.heap.size + 1) (.int .i64 0) (.slice none 0 0) (.int .i64 0) (.int .i64 0) (.int .i64 0) (.slice none 0 0)).alloc (.cells #[.int .i64 0, .slice none 0 0, .int .i64 0, .int .i64 0, .int .i64 0] 74) := ⟨_, rfl⟩
    rw [← hwz] at k6z b2z
    simp only [set6] at hwz
    go_wp2
    rw [← hwz]
    clear c6 f6 l6 hwz b2y
    obtain ⟨c6, f6, l6⟩ := k6z.rules
    refine bodyPost_ret (v := .tuple #[.agg #[.int .i64 0, .slice none 0 0, .int .i64 0, .int .i64 0, .int .i64 0, .slice none 0 0], .int .i64 (errB s bs)]) (by simp [results, Tryz.results34, go_sem, c6]) rfl ⟨fun h => absurd h h1, fun _ => rfl, b2z⟩
/-! watched -/
theorem errBW_zero {s : Strm} {bs : List Bnd} {l : List Wat} (h : errBW s bs l = 0) : errB s bs = 0 ∧ okWats l = true := by
  unfold errBW at h
  split at h
  · rename_i h1
    refine ⟨h1, ?_⟩
    unfold chkWats at h
    split at h
    · assumption
    · omega
  · exact absurd h (by assumption)
set_option maxRecDepth 100000 in
set_option maxHeartbeats 2000000 in
theorem watched_any (s : Strm) (A O D V : Option Addr) (n c no co nd cd nv cv : Nat) (bs : List Bnd) (l : List Wat) (v : List Int) (w : World) (hss : SlAt w 0 5 Sec.cells A n c s.secs) (hs : SlAt w 0 2 Bnd.cells O no co bs) (hd : SlAt w 0 4 Wat.cells D nd cd l) (hvv : SlAt w 0 1 ivs V nv cv v) :
    Calls Tryz.prog 32 #[.agg #[.int .i64 s.head, .slice A n c, .int .i64 s.lane.lo, .int .i64 s.lane.hi, .int .i64 s.bend], .slice O no co, .slice D nd cd, .slice V nv cv] w (RetTow s A O n c no co (errB s bs) (errW s bs l v) w) := by
  have hld := hd.len
  have hlv := hvv.len
  by_cases h1 : errBW s bs l = 0
  · obtain ⟨h2, h3⟩ := errBW_zero h1
    have hev : errW s bs l v = if nv = nd ∧ okSpeeds v = true then 0 else 34 := by simp [errW, h1, hld, hlv]
    rw [hev, h2]
    clear hev hld hlv
    replace h1 := Lib.hid h1
    replace h2 := Lib.hid h2
    clear h3
    by_cases h4 : nv = nd
    · subst h4
      obtain ⟨sp, hsp⟩ : ∃ sp, sp = okSpeeds v := ⟨_, rfl⟩
      rw [← hsp]
      cases sp with
      | false =>
        rw [show (if nv = nv ∧ (false : Bool) = true then (0 : Int) else 34) = 34 by simp]
        replace hsp := Lib.hid hsp
        go_enter Tryz.func32, Tryz.ntmps32
        go_wp2_with fail
        refine (begun_any s A O D n c no co nv cd bs l _ ((hss.alloc _).alloc _) ((hs.alloc _).alloc _) ((hd.alloc _).alloc _)).mono ?_
        rintro e w1 ⟨r1, r2, hb1⟩
        have k8 := (Blk.new _ _ _).below hb1
        rw [World.size_alloc] at k8
        have b1 := (((Below.refl w.heap.size w).alloc (Nat.le_refl _) _).alloc (by simp) _).trans (hb1.mono (by simp; omega))
        rw [h1.out] at r1
        obtain rfl := r1 h2.out
        obtain ⟨c8, f8, l8⟩ := k8.rules
        clear r1 r2
        have hv1 := ((hvv.alloc _).alloc _).below hb1
        have b1a := b1.alloc b1.size (.cells #[.int .i64 s.head, .slice A n c, .int .i64 s.lane.lo, .int .i64 s.lane.hi, .int .i64 s.bend, .slice O no co] 85)
        have k10 := Blk.new w1 85 #[.int .i64 s.head, .slice A n c, .int .i64 s.lane.lo, .int .i64 s.lane.hi, .int .i64 s.bend, .slice O no co]
        have k8a := k8.alloc (.cells #[.int .i64 s.head, .slice A n c, .int .i64 s.lane.lo, .int .i64 s.lane.hi, .int .i64 s.bend, .slice O no co] 85)
        have hv2 := hv1.alloc (.cells #[.int .i64 s.head, .slice A n c, .int .i64 s.lane.lo, .int .i64 s.lane.hi, .int .i64 s.bend, .slice O no co] 85)
        go_wp2_with fail
        refine (speeds_any V nv cv 0 v _ hv2).mono ?_
        rw [← hsp.out]
        rintro e w2 ⟨rfl, hb2⟩
        clear c8 f8 l8
        replace b1a := b1a.trans (hb2.mono b1a.size)
        replace k10 := k10.below hb2
        replace k8a := k8a.below hb2
        have b2z := below_set6 (g := w.heap.size + 1) b1a (by omega) (.int .i64 s.head) (.slice A n c) (.int .i64 s.lane.lo) (.int .i64 s.lane.hi) (.int .i64 s.bend) (.slice O no co)
        have k8z := k8a.set6 (.int .i64 s.head) (.slice A n c) (.int .i64 s.lane.lo) (.int .i64 s.lane.hi) (.int .i64 s.bend) (.slice O no co)
        obtain ⟨wz, hwz⟩ : ∃ x, x = (set6 w2 (w.heap.size + 1) (.int .i64 s.head) (.slice A n c) (.int .i64 s.lane.lo) (.int .i64 s.lane.hi) (.int .i64 s.bend) (.slice O no co)) := ⟨_, rfl⟩
        rw [← hwz] at k8z b2z
        simp only [set6] at hwz
        obtain ⟨c8, f8, l8⟩ := k8a.rules
        obtain ⟨c10, f10, l10⟩ := k10.rules
        clear k8 k8a k10 b1 hb1 hb2 hv1 hv2
        go_wp2
        rw [← hwz]
        clear hwz c8 f8 l8 c10 f10 l10
        obtain ⟨c8, f8, l8⟩ := k8z.rules
        refine bodyPost_ret (v := .tuple #[.agg #[.int .i64 s.head, .slice A n c, .int .i64 s.lane.lo, .int .i64 s.lane.hi, .int .i64 s.bend, .slice O no co], .int .i64 34]) (by simp [results, Tryz.results32, go_sem, c8]) rfl ⟨fun _ => rfl, fun h => absurd rfl h, b2z⟩
      | true =>
        rw [show (if nv = nv ∧ (true : Bool) = true then (0 : Int) else 34) = 0 by simp]
        replace hsp := Lib.hid hsp
        go_enter Tryz.func32, Tryz.ntmps32
        go_wp2_with fail
        refine (begun_any s A O D n c no co nv cd bs l _ ((hss.alloc _).alloc _) ((hs.alloc _).alloc _) ((hd.alloc _).alloc _)).mono ?_
        rintro e w1 ⟨r1, r2, hb1⟩
        have k8 := (Blk.new _ _ _).below hb1
        rw [World.size_alloc] at k8
        have b1 := (((Below.refl w.heap.size w).alloc (Nat.le_refl _) _).alloc (by simp) _).trans (hb1.mono (by simp; omega))
        rw [h1.out] at r1
        obtain rfl := r1 h2.out
        obtain ⟨c8, f8, l8⟩ := k8.rules
        clear r1 r2
        have hv1 := ((hvv.alloc _).alloc _).below hb1
        have b1a := b1.alloc b1.size (.cells #[.int .i64 s.head, .slice A n c, .int .i64 s.lane.lo, .int .i64 s.lane.hi, .int .i64 s.bend, .slice O no co] 85)
        have k10 := Blk.new w1 85 #[.int .i64 s.head, .slice A n c, .int .i64 s.lane.lo, .int .i64 s.lane.hi, .int .i64 s.bend, .slice O no co]
        have k8a := k8.alloc (.cells #[.int .i64 s.head, .slice A n c, .int .i64 s.lane.lo, .int .i64 s.lane.hi, .int .i64 s.bend, .slice O no co] 85)
        have hv2 := hv1.alloc (.cells #[.int .i64 s.head, .slice A n c, .int .i64 s.lane.lo, .int .i64 s.lane.hi, .int .i64 s.bend, .slice O no co] 85)
        go_wp2_with fail
        refine (speeds_any V nv cv 0 v _ hv2).mono ?_
        rw [← hsp.out]
        rintro e w2 ⟨rfl, hb2⟩
        clear c8 f8 l8
        replace b1a := b1a.trans (hb2.mono b1a.size)
        replace k10 := k10.below hb2
        replace k8a := k8a.below hb2
        have b2z := below_set6 (g := w.heap.size + 1) b1a (by omega) (.int .i64 s.head) (.slice A n c) (.int .i64 s.lane.lo) (.int .i64 s.lane.hi) (.int .i64 s.bend) (.slice O no co)
        have k8z := k8a.set6 (.int .i64 s.head) (.slice A n c) (.int .i64 s.lane.lo) (.int .i64 s.lane.hi) (.int .i64 s.bend) (.slice O no co)
        obtain ⟨wz, hwz⟩ : ∃ x, x = (set6 w2 (w.heap.size + 1) (.int .i64 s.head) (.slice A n c) (.int .i64 s.lane.lo) (.int .i64 s.lane.hi) (.int .i64 s.bend) (.slice O no co)) := ⟨_, rfl⟩
        rw [← hwz] at k8z b2z
        simp only [set6] at hwz
        obtain ⟨c8, f8, l8⟩ := k8a.rules
        obtain ⟨c10, f10, l10⟩ := k10.rules
        clear k8 k8a k10 b1 hb1 hb2 hv1 hv2
        go_wp2
        rw [← hwz]
        clear hwz c8 f8 l8 c10 f10 l10
        obtain ⟨c8, f8, l8⟩ := k8z.rules
        refine bodyPost_ret (v := .tuple #[.agg #[.int .i64 s.head, .slice A n c, .int .i64 s.lane.lo, .int .i64 s.lane.hi, .int .i64 s.bend, .slice O no co], .int .i64 0]) (by simp [results, Tryz.results32, go_sem, c8]) rfl ⟨fun _ => rfl, fun h => absurd rfl h, b2z⟩
    · rw [if_neg (fun h => h4 h.1)]
      have h4' : ¬ ((nv : Int) = (nd : Int)) := by omega
      go_enter Tryz.func32, Tryz.ntmps32
      go_wp2_with fail
      refine (begun_any s A O D n c no co nd cd bs l _ ((hss.alloc _).alloc _) ((hs.alloc _).alloc _) ((hd.alloc _).alloc _)).mono ?_
      rintro e w1 ⟨r1, r2, hb1⟩
      have k8 := (Blk.new _ _ _).below hb1
      rw [World.size_alloc] at k8
      have b1 := (((Below.refl w.heap.size w).alloc (Nat.le_refl _) _).alloc (by simp) _).trans (hb1.mono (by simp; omega))
      rw [h1.out] at r1
      obtain rfl := r1 h2.out
      have b2y := below_set6 (g := w.heap.size + 1) b1 (by omega) (.int .i64 s.head) (.slice A n c) (.int .i64 s.lane.lo) (.int .i64 s.lane.hi) (.int .i64 s.bend) (.slice O no co)
      have k8z := (k8.set6 (.int .i64 s.head) (.slice A n c) (.int .i64 s.lane.lo) (.int .i64 s.lane.hi) (.int .i64 s.bend) (.slice O no co)).alloc (.cells #[.int .i64 s.head, .slice A n c, .int .i64 s.lane.lo, .int .i64 s.lane.hi, .int .i64 s.bend, .slice O no co] 85)
      have b2z := b2y.alloc b2y.size (.cells #[.int .i64 s.head, .slice A n c, .int .i64 s.lane.lo, .int .i64 s.lane.hi, .int .i64 s.bend, .slice O no co] 85)
      obtain ⟨wz, hwz⟩ : ∃ x, x = (set6 w1 (w.heap.size + 1) (.int .i64 s.head) (.slice A n c) (.int .i64 s.lane.lo) (.int .i64 s.lane.hi) (.int .i64 s.bend) (.slice O no co)).alloc (.cells #[.int .i64 s.head, .slice A n c, .int .i64 s.lane.lo, .int .i64 s.lane.hi, .int .i64 s.bend, .slice O no co] 85) := ⟨_, rfl⟩
      rw [← hwz] at k8z b2z
      simp only [set6] at hwz
      obtain ⟨c8, f8, l8⟩ := k8.rules
      clear k8 b2y r1 r2 b1 hss hs hd hvv hb1
      go_wp2
      rw [← hwz]
      clear hwz c8 f8 l8
      obtain ⟨c8, f8, l8⟩ := k8z.rules
      refine bodyPost_ret (v := .tuple #[.agg #[.int .i64 s.head, .slice A n c, .int .i64 s.lane.lo, .int .i64 s.lane.hi, .int .i64 s.bend, .slice O no co], .int .i64 (34)]) (by simp [results, Tryz.results32, go_sem, c8]) rfl ⟨fun _ => rfl, fun h => absurd rfl h, b2z⟩
  · have hev : errW s bs l v = errBW s bs l := by simp [errW, h1]
    rw [hev]
    clear hev hld hlv
    have h1' : (errBW s bs l != 0) = true := by rw [bne_iff_ne]; exact h1
    obtain ⟨er, her⟩ : ∃ er, er = errBW s bs l := ⟨_, rfl⟩
    by_cases h2 : errB s bs = 0
    · replace h2 := Lib.hid h2
      go_enter Tryz.func32, Tryz.ntmps32
      go_wp2_with fail
      refine (begun_any s A O D n c no co nd cd bs l _ ((hss.alloc _).alloc _) ((hs.alloc _).alloc _) ((hd.alloc _).alloc _)).mono ?_
      rintro e w1 ⟨r1, r2, hb1⟩
      have k8 := (Blk.new _ _ _).below hb1
      rw [World.size_alloc] at k8
      have b1 := (((Below.refl w.heap.size w).alloc (Nat.le_refl _) _).alloc (by simp) _).trans (hb1.mono (by simp; omega))
      obtain rfl := r1 h2.out
      have b2y := below_set6 (g := w.heap.size + 1) b1 (by omega) (.int .i64 s.head) (.slice A n c) (.int .i64 s.lane.lo) (.int .i64 s.lane.hi) (.int .i64 s.bend) (.slice O no co)
      have k8z := (k8.set6 (.int .i64 s.head) (.slice A n c) (.int .i64 s.lane.lo) (.int .i64 s.lane.hi) (.int .i64 s.bend) (.slice O no co)).alloc (.cells #[.int .i64 s.head, .slice A n c, .int .i64 s.lane.lo, .int .i64 s.lane.hi, .int .i64 s.bend, .slice O no co] 85)
      have b2z := b2y.alloc b2y.size (.cells #[.int .i64 s.head, .slice A n c, .int .i64 s.lane.lo, .int .i64 s.lane.hi, .int .i64 s.bend, .slice O no co] 85)
      obtain ⟨wz, hwz⟩ : ∃ x, x = (set6 w1 (w.heap.size + 1) (.int .i64 s.head) (.slice A n c) (.int .i64 s.lane.lo) (.int .i64 s.lane.hi) (.int .i64 s.bend) (.slice O no co)).alloc (.cells #[.int .i64 s.head, .slice A n c, .int .i64 s.lane.lo, .int .i64 s.lane.hi, .int .i64 s.bend, .slice O no co] 85) := ⟨_, rfl⟩
      rw [← hwz] at k8z b2z
      simp only [set6] at hwz
      obtain ⟨c8, f8, l8⟩ := k8.rules
      clear k8 b2y r1 r2 b1 hss hs hd hvv hb1
      go_wp2
      rw [← hwz]
      clear hwz c8 f8 l8
      obtain ⟨c8, f8, l8⟩ := k8z.rules
      refine bodyPost_ret (v := .tuple #[.agg #[.int .i64 s.head, .slice A n c, .int .i64 s.lane.lo, .int .i64 s.lane.hi, .int .i64 s.bend, .slice O no co], .int .i64 (errBW s bs l)]) (by simp [results, Tryz.results32, go_sem, c8]) rfl ⟨fun _ => rfl, fun h => absurd h2.out h, b2z⟩
    · replace h2 := Lib.hid h2
      go_enter Tryz.func32, Tryz.ntmps32
      go_wp2_with fail
      refine (begun_any s A O D n c no co nd cd bs l _ ((hss.alloc _).alloc _) ((hs.alloc _).alloc _) ((hd.alloc _).alloc _)).mono ?_
      rintro e w1 ⟨r1, r2, hb1⟩
      have k8 := (Blk.new _ _ _).below hb1
      rw [World.size_alloc] at k8
      have b1 := (((Below.refl w.heap.size w).alloc (Nat.le_refl _) _).alloc (by simp) _).trans (hb1.mono (by simp; omega))
      obtain rfl := r2 h2.out
      have b2y := below_set6 (g := w.heap.size + 1) b1 (by omega) (.int .i64 0) (.slice none 0 0) (.int .i64 0) (.int .i64 0) (.int .i64 0) (.slice none 0 0)
      have k8z := (k8.set6 (.int .i64 0) (.slice none 0 0) (.int .i64 0) (.int .i64 0) (.int .i64 0) (.slice none 0 0)).alloc (.cells #[.int .i64 0, .slice none 0 0, .int .i64 0, .int .i64 0, .int .i64 0, .slice none 0 0] 85)
      have b2z := b2y.alloc b2y.size (.cells #[.int .i64 0, .slice none 0 0, .int .i64 0, .int .i64 0, .int .i64 0, .slice none 0 0] 85)
      obtain ⟨wz, hwz⟩ : ∃ x, x = (set6 w1 (w.heap.size + 1) (.int .i64 0) (.slice none 0 0) (.int .i64 0) (.int .i64 0) (.int .i64 0) (.slice none 0 0)).alloc (.cells #[.int .i64 0, .slice none 0 0, .int .i64 0, .int .i64 0, .int .i64 0, .slice none 0 0] 85) := ⟨_, rfl⟩
      rw [← hwz] at k8z b2z
      simp only [set6] at hwz
      obtain ⟨c8, f8, l8⟩ := k8.rules
      clear k8 b2y r1 r2 b1 hss hs hd hvv hb1
      go_wp2
      rw [← hwz]
      clear hwz c8 f8 l8
      obtain ⟨c8, f8, l8⟩ := k8z.rules
      refine bodyPost_ret (v := .tuple #[.agg #[.int .i64 0, .slice none 0 0, .int .i64 0, .int .i64 0, .int .i64 0, .slice none 0 0], .int .i64 (errBW s bs l)]) (by simp [results, Tryz.results32, go_sem, c8]) rfl ⟨fun h => absurd h h2.out, fun _ => rfl, b2z⟩
end Go.Proofs.YthjdjpcomocffaaGreat
namespace Go.Proofs.YthjdjpcomocffaaGreat
open Go.RowKit Go.Shelf

set_option maxRecDepth 100000 in
set_option maxHeartbeats 1000000 in
theorem keeps_any (s : Strm) (bs : List Bnd) (l : List Wat) (v : List Int) (A O D V : Option Addr) (n c co nd cd nv cv : Nat) (w : World) (ho : okStrm s = true) (hb0 : okOffs s bs = true) (hl0 : l.all okWat = true) (hv : okSpeeds v = true) (hvl : v.length = l.length)
    (hss : SlAt w 0 5 Sec.cells A n c s.secs) (hs : SlAt w 0 2 Bnd.cells O n co bs) (hd : SlAt w 0 4 Wat.cells D nd cd l) (hvv : SlAt w 0 1 ivs V nv cv v) :
    Calls Tryz.prog 41 #[.agg #[.int .i64 s.head, .slice A n c, .int .i64 s.lane.lo, .int .i64 s.lane.hi, .int .i64 s.bend, .slice O n co], .slice D nd cd, .slice V nv cv] w fun e w' =>
      e = .returned (.bool (keepsS s bs l v)) ∧ Below w.heap.size w w' := by
  have hk : keepsS s bs l v = decide ((strainS s bs l v nd).1 = -1 ∧ (strainS s bs l v nd).2 = -1) := by
    unfold keepsS; rw [hd.len]; congr 1; rw [Prod.ext_iff]
  rw [hk]
  clear hk
  have h := fun w' hb => strain_any s bs l v A O D V n c co nd cd nv cv w' ho hb0 hl0 hv hvl (hss.below (w' := w') hb) (hs.below hb) (hd.below hb) (hvv.below hb)
  generalize strainS s bs l v nd = p at *
  obtain ⟨p1, p2⟩ := p
  dsimp only at *
  replace h := Lib.hid h
  clear hss hs hd hvv ho hb0 hl0 hv hvl
  obtain ⟨b, hb⟩ : ∃ b, b = decide (p1 = -1 ∧ p2 = -1) := ⟨_, rfl⟩
  rw [← hb]
  replace hb := Lib.hid hb
  go_enter Tryz.func41, Tryz.ntmps41
  go_wp2_with fail
  refine (h.out _ ((Below.refl _ _).alloc (Nat.le_refl _) _)).mono ?_
  rintro e w1 ⟨rfl, hb1⟩
  have b1 := ((Below.refl w.heap.size w).alloc (Nat.le_refl _) _).trans (hb1.mono (by simp))
  go_wp2
  all_goals
    go_ret
    exact ⟨ret_bool (by rw [hb.out]; simp [*]), b1⟩

theorem errW_zero {s : Strm} {bs : List Bnd} {l : List Wat} {v : List Int} (h : errW s bs l v = 0) : okStrm s = true ∧ okOffs s bs = true ∧ l.all okWat = true ∧ okSpeeds v = true ∧ v.length = l.length ∧ errB s bs = 0 := by
  unfold errW at h
  split at h
  · rename_i h1
    obtain ⟨h2, h3⟩ := errBW_zero h1
    obtain ⟨h4, h5⟩ := errB_zero h2
    unfold okWats at h3
    simp only [Bool.and_eq_true, decide_eq_true_eq] at h3
    split at h
    · rename_i h6
      exact ⟨h4, h5, h3.2, h6.2, h6.1, h2⟩
    · omega
  · exact absurd h (by assumption)
set_option maxRecDepth 100000 in
set_option maxHeartbeats 1000000 in
theorem Watch_any (s : Strm) (A O D V : Option Addr) (n c no co nd cd nv cv : Nat) (bs : List Bnd) (l : List Wat) (v : List Int) (w : World) (hss : SlAt w 0 5 Sec.cells A n c s.secs) (hs : SlAt w 0 2 Bnd.cells O no co bs) (hd : SlAt w 0 4 Wat.cells D nd cd l) (hvv : SlAt w 0 1 ivs V nv cv v) :
    Calls Tryz.prog 10 #[.agg #[.int .i64 s.head, .slice A n c, .int .i64 s.lane.lo, .int .i64 s.lane.hi, .int .i64 s.bend], .slice O no co, .slice D nd cd, .slice V nv cv] w fun e w' =>
      e = .returned (.tuple #[.agg #[.int .i64 (watchR s bs l v).1.1, .int .i64 (watchR s bs l v).1.2], .int .i64 (watchR s bs l v).2]) ∧ Below w.heap.size w w' := by
  have hld := hd.len
  by_cases h1 : errW s bs l v = 0
  · obtain ⟨o1, o2, o3, o4, o5, o6⟩ := errW_zero h1
    have hv : watchR s bs l v = (strainS s bs l v nd, 0) := by simp [watchR, h1, hld]
    rw [hv]
    have hno : no = n := by have := okOffs_len o2; have := hs.len; have := hss.len; omega
    subst hno
    replace h1 := Lib.hid h1
    replace o6 := Lib.hid o6
    have hst := fun w' hb => strain_any s bs l v A O D V no c co nd cd nv cv w' o1 o2 o3 o4 o5 (hss.below (w' := w') hb) (hs.below hb) (hd.below hb) (hvv.below hb)
    clear hv
    generalize strainS s bs l v nd = p at *
    obtain ⟨p1, p2⟩ := p
    dsimp only at *
    replace hst := Lib.hid hst
    clear o1 o2 o3 o4 o5 hld
    go_enter Tryz.func10, Tryz.ntmps10
    go_wp2_with fail
    refine (watched_any s A O D V no c no co nd cd nv cv bs l v _ ((hss.alloc _).alloc _) ((hs.alloc _).alloc _) ((hd.alloc _).alloc _) ((hvv.alloc _).alloc _)).mono ?_
    rintro e w1 ⟨r1, r2, hb1⟩
    rw [h1.out] at r1
    obtain rfl := r1 o6.out
    clear r1 r2
    have k8 := (Blk.new _ _ _).below hb1
    rw [World.size_alloc] at k8
    have b1 := (((Below.refl w.heap.size w).alloc (Nat.le_refl _) _).alloc (by simp) _).trans (hb1.mono (by simp; omega))
    have b1a := b1.alloc b1.size (.cells #[.int .i64 s.head, .slice A no c, .int .i64 s.lane.lo, .int .i64 s.lane.hi, .int .i64 s.bend, .slice O no co] 85)
    have k8a := k8.alloc (.cells #[.int .i64 s.head, .slice A no c, .int .i64 s.lane.lo, .int .i64 s.lane.hi, .int .i64 s.bend, .slice O no co] 85)
    go_wp2_with fail
    refine (hst.out _ b1a).mono ?_
    rintro e w2 ⟨rfl, hb2⟩
    replace b1a := b1a.trans (hb2.mono b1a.size)
    replace k8a := k8a.below hb2
    clear k8 hb1 hb2 b1 hst hss hs hd hvv
    obtain ⟨c8, f8, l8⟩ := k8a.rules
    have k8z := (k8a.set_ 0 (.int .i64 p1)).set_ 1 (.int .i64 p2)
    have b2z := (b1a.setCell (p := ⟨w.heap.size + 1, 0, none⟩) (by dsimp only; omega) (.int .i64 p1)).setCell (p := ⟨w.heap.size + 1, 1, none⟩) (by dsimp only; omega) (.int .i64 p2)
    obtain ⟨wz, hwz⟩ : ∃ x, x = (w2.setCell ⟨w.heap.size + 1, 0, none⟩ (.int .i64 p1)).setCell ⟨w.heap.size + 1, 1, none⟩ (.int .i64 p2) := ⟨_, rfl⟩
    rw [← hwz] at k8z b2z
    go_wp2
    rw [← hwz]
    clear hwz c8 f8 l8
    obtain ⟨c8, f8, l8⟩ := k8z.rules
    exact bodyPost_ret (v := .tuple #[.agg #[.int .i64 p1, .int .i64 p2], .int .i64 0]) (by simp [results, Tryz.results10, go_sem, c8]) rfl ⟨rfl, b2z⟩
  · have hv : watchR s bs l v = ((0, 0), errW s bs l v) := by simp [watchR, h1]
    rw [hv]
    dsimp only
    have h1' : (errW s bs l v != 0) = true := by rw [bne_iff_ne]; exact h1
    replace h1 := Lib.hid h1
    clear hv hld
    by_cases h2 : errB s bs = 0
    · replace h2 := Lib.hid h2
      go_enter Tryz.func10, Tryz.ntmps10
      go_wp2_with fail
      refine (watched_any s A O D V n c no co nd cd nv cv bs l v _ ((hss.alloc _).alloc _) ((hs.alloc _).alloc _) ((hd.alloc _).alloc _) ((hvv.alloc _).alloc _)).mono ?_
      rintro e w1 ⟨r1, r2, hb1⟩
      obtain rfl := r1 h2.out
      clear r1 r2
      have k8 := (Blk.new _ _ _).below hb1
      rw [World.size_alloc] at k8
      have b1 := (((Below.refl w.heap.size w).alloc (Nat.le_refl _) _).alloc (by simp) _).trans (hb1.mono (by simp; omega))
      clear hb1 hss hs hd hvv
      obtain ⟨c8, f8, l8⟩ := k8.rules
      have k8z := ((k8.set_ 0 (.int .i64 0)).set_ 1 (.int .i64 0)).alloc (.cells #[.int .i64 s.head, .slice A n c, .int .i64 s.lane.lo, .int .i64 s.lane.hi, .int .i64 s.bend, .slice O no co] 85)
      have b2y := (b1.setCell (p := ⟨w.heap.size + 1, 0, none⟩) (by dsimp only; omega) (.int .i64 0)).setCell (p := ⟨w.heap.size + 1, 1, none⟩) (by dsimp only; omega) (.int .i64 0)
      have b2z := b2y.alloc b2y.size (.cells #[.int .i64 s.head, .slice A n c, .int .i64 s.lane.lo, .int .i64 s.lane.hi, .int .i64 s.bend, .slice O no co] 85)
      obtain ⟨wz, hwz⟩ : ∃ x, x = ((w1.setCell ⟨w.heap.size + 1, 0, none⟩ (.int .i64 0)).setCell ⟨w.heap.size + 1, 1, none⟩ (.int .i64 0)).alloc (.cells #[.int .i64 s.head, .slice A n c, .int .i64 s.lane.lo, .int .i64 s.lane.hi, .int .i64 s.bend, .slice O no co] 85) := ⟨_, rfl⟩
      rw [← hwz] at k8z b2z
      clear b2y k8 b1
      go_wp2
      rw [← hwz]
      clear hwz c8 f8 l8
      obtain ⟨c8, f8, l8⟩ := k8z.rules
      exact bodyPost_ret (v := .tuple #[.agg #[.int .i64 0, .int .i64 0], .int .i64 (errW s bs l v)]) (by simp [results, Tryz.results10, go_sem, c8]) rfl ⟨rfl, b2z⟩
    · replace h2 := Lib.hid h2
      go_enter Tryz.func10, Tryz.ntmps10
      go_wp2_with fail
      refine (watched_any s A O D V n c no co nd cd nv cv bs l v _ ((hss.alloc _).alloc _) ((hs.alloc _).alloc _) ((hd.alloc _).alloc _) ((hvv.alloc _).alloc _)).mono ?_
      rintro e w1 ⟨r1, r2, hb1⟩
      obtain rfl := r2 h2.out
      clear r1 r2
      have k8 := (Blk.new _ _ _).below hb1
      rw [World.size_alloc] at k8
      have b1 := (((Below.refl w.heap.size w).alloc (Nat.le_refl _) _).alloc (by simp) _).trans (hb1.mono (by simp; omega))
      clear hb1 hss hs hd hvv
      obtain ⟨c8, f8, l8⟩ := k8.rules
      have k8z := ((k8.set_ 0 (.int .i64 0)).set_ 1 (.int .i64 0)).alloc (.cells #[.int .i64 0, .slice none 0 0, .int .i64 0, .int .i64 0, .int .i64 0, .slice none 0 0] 85)
      have b2y := (b1.setCell (p := ⟨w.heap.size + 1, 0, none⟩) (by dsimp only; omega) (.int .i64 0)).setCell (p := ⟨w.heap.size + 1, 1, none⟩) (by dsimp only; omega) (.int .i64 0)
      have b2z := b2y.alloc b2y.size (.cells #[.int .i64 0, .slice none 0 0, .int .i64 0, .int .i64 0, .int .i64 0, .slice none 0 0] 85)
      obtain ⟨wz, hwz⟩ : ∃ x, x = ((w1.setCell ⟨w.heap.size + 1, 0, none⟩ (.int .i64 0)).setCell ⟨w.heap.size + 1, 1, none⟩ (.int .i64 0)).alloc (.cells #[.int .i64 0, .slice none 0 0, .int .i64 0, .int .i64 0, .int .i64 0, .slice none 0 0] 85) := ⟨_, rfl⟩
      rw [← hwz] at k8z b2z
      clear b2y k8 b1
      go_wp2
      rw [← hwz]
      clear hwz c8 f8 l8
      obtain ⟨c8, f8, l8⟩ := k8z.rules
      exact bodyPost_ret (v := .tuple #[.agg #[.int .i64 0, .int .i64 0], .int .i64 (errW s bs l v)]) (by simp [results, Tryz.results10, go_sem, c8]) rfl ⟨rfl, b2z⟩
set_option maxRecDepth 100000 in
set_option maxHeartbeats 1000000 in
theorem Keeps_any (s : Strm) (A O D V : Option Addr) (n c no co nd cd nv cv : Nat) (bs : List Bnd) (l : List Wat) (v : List Int) (w : World) (hss : SlAt w 0 5 Sec.cells A n c s.secs) (hs : SlAt w 0 2 Bnd.cells O no co bs) (hd : SlAt w 0 4 Wat.cells D nd cd l) (hvv : SlAt w 0 1 ivs V nv cv v) :
    Calls Tryz.prog 54 #[.agg #[.int .i64 s.head, .slice A n c, .int .i64 s.lane.lo, .int .i64 s.lane.hi, .int .i64 s.bend], .slice O no co, .slice D nd cd, .slice V nv cv] w fun e w' =>
      e = .returned (.tuple #[.bool (keepsR s bs l v).1, .int .i64 (keepsR s bs l v).2]) ∧ Below w.heap.size w w' := by
  by_cases h1 : errW s bs l v = 0
  · obtain ⟨o1, o2, o3, o4, o5, o6⟩ := errW_zero h1
    have hv : keepsR s bs l v = (keepsS s bs l v, 0) := by simp [keepsR, h1]
    rw [hv]
    have hno : no = n := by have := okOffs_len o2; have := hs.len; have := hss.len; omega
    subst hno
    replace h1 := Lib.hid h1
    replace o6 := Lib.hid o6
    have hst := fun w' hb => keeps_any s bs l v A O D V no c co nd cd nv cv w' o1 o2 o3 o4 o5 (hss.below (w' := w') hb) (hs.below hb) (hd.below hb) (hvv.below hb)
    clear hv
    dsimp only
    generalize keepsS s bs l v = p at *
    replace hst := Lib.hid hst
    clear o1 o2 o3 o4 o5
    go_enter Tryz.func54, Tryz.ntmps54
    go_wp2_with fail
    refine (watched_any s A O D V no c no co nd cd nv cv bs l v _ (hss.alloc _) (hs.alloc _) (hd.alloc _) (hvv.alloc _)).mono ?_
    rintro e w1 ⟨r1, r2, hb1⟩
    rw [h1.out] at r1
    obtain rfl := r1 o6.out
    clear r1 r2
    have b1 := ((Below.refl w.heap.size w).alloc (Nat.le_refl _) _).trans (hb1.mono (by simp))
    have b1a := b1.alloc b1.size (.cells #[.int .i64 s.head, .slice A no c, .int .i64 s.lane.lo, .int .i64 s.lane.hi, .int .i64 s.bend, .slice O no co] 85)
    go_wp2_with fail
    refine (hst.out _ b1a).mono ?_
    rintro e w2 ⟨rfl, hb2⟩
    replace b1a := b1a.trans (hb2.mono b1a.size)
    go_wp2
    go_ret2
    exact ⟨rfl, b1a⟩
  · have hv : keepsR s bs l v = (false, errW s bs l v) := by simp [keepsR, h1]
    rw [hv]
    dsimp only
    have h1' : (errW s bs l v != 0) = true := by rw [bne_iff_ne]; exact h1
    replace h1 := Lib.hid h1
    clear hv
    by_cases h2 : errB s bs = 0
    · replace h2 := Lib.hid h2
      go_enter Tryz.func54, Tryz.ntmps54
      go_wp2_with fail
      refine (watched_any s A O D V n c no co nd cd nv cv bs l v _ (hss.alloc _) (hs.alloc _) (hd.alloc _) (hvv.alloc _)).mono ?_
      rintro e w1 ⟨r1, r2, hb1⟩
      obtain rfl := r1 h2.out
      clear r1 r2
      have b1 := ((Below.refl w.heap.size w).alloc (Nat.le_refl _) _).trans (hb1.mono (by simp))
      go_wp2
      go_ret2
      exact ⟨rfl, b1.alloc b1.size _⟩
    · replace h2 := Lib.hid h2
      go_enter Tryz.func54, Tryz.ntmps54
      go_wp2_with fail
      refine (watched_any s A O D V n c no co nd cd nv cv bs l v _ (hss.alloc _) (hs.alloc _) (hd.alloc _) (hvv.alloc _)).mono ?_
      rintro e w1 ⟨r1, r2, hb1⟩
      obtain rfl := r2 h2.out
      clear r1 r2
      have b1 := ((Below.refl w.heap.size w).alloc (Nat.le_refl _) _).trans (hb1.mono (by simp))
      go_wp2
      go_ret2
      exact ⟨rfl, b1.alloc b1.size _⟩
end Go.Proofs.YthjdjpcomocffaaGreat
