/-
  Courses, walks: from where a ship may go on, and when it may end: at the example.
-/
import Derived.Test.YtcmbmmpihiekhaaGreatC15
set_option maxRecDepth 100000
set_option maxHeartbeats 16000000
set_option linter.unusedSimpArgs false
set_option linter.unusedVariables false
namespace Go.Proofs.YtcmbmmpihiekhaaGreat
open Go.RowKit Go.Shelf
attribute [local go_sem] Oper.semAt_some

structure BefL (p : Pl) (gs gx gp gt : Nat) (d : Int) (T : Option Addr) (n c : Nat) (w : World) : Prop where
  inv : InvC p w
  kp : Blk w gp 214 #[.pointer (some ⟨p.c, 0, none⟩), .map (some p.m2)]
  ks : Blk w gs 3 #[.int .i64 1]
  kx : Blk w gx 224 #[.int .i64 0, .int .i64 d]
  kt : Blk w gt 33 #[.slice T n c]
section
variable {p : Pl} {gs gx gp gt : Nat} {d : Int} {T : Option Addr} {n c : Nat}
theorem BefL.calm {w0 w w' : World} (h : BefL p gs gx gp gt d T n c w) (h0 : InvC p w0) (hb : Calm w0.heap.size w w') : BefL p gs gx gp gt d T n c w' := ⟨h.inv.calm h0 hb, calm_blk hb h.kp, calm_blk hb h.ks, calm_blk hb h.kx, calm_blk hb h.kt⟩
theorem BefL.below {w w' : World} (h : BefL p gs gx gp gt d T n c w) (hb : Below w.heap.size w w') : BefL p gs gx gp gt d T n c w' := ⟨h.inv.below hb, h.kp.below hb, h.ks.below hb, h.kx.below hb, h.kt.below hb⟩
theorem BefL.next {w w' : World} (h : BefL p gs gx gp gt d T n c w) (hI : InvC p w') (hb : BelowH (HM p) w.heap.size w w') : BefL p gs gx gp gt d T n c w' :=
  ⟨hI, hb.blk h.kp h.kp.lt (h.inv.off h.kp), hb.blk h.ks h.ks.lt (h.inv.off h.ks), hb.blk h.kx h.kx.lt (h.inv.off h.kx), hb.blk h.kt h.kt.lt (h.inv.off h.kt)⟩
theorem BefL.set_ {w0 w : World} (h : BefL p gs gx gp gt d T n c w) (h0 : BefL p gs gx gp gt d T n c w0) {g o : Nat} (hg : w0.heap.size ≤ g) (v : Value) : BefL p gs gx gp gt d T n c (w.setCell ⟨g, o, none⟩ v) :=
  ⟨h.inv.set_ h0.inv hg v, h.kp.far (by have := h0.kp.lt; dsimp only; omega) v, h.ks.far (by have := h0.ks.lt; dsimp only; omega) v, h.kx.far (by have := h0.kx.lt; dsimp only; omega) v, h.kt.far (by have := h0.kt.lt; dsimp only; omega) v⟩
end
def BefG (k : Nat) (vs : Array Value) (_ : World) : Prop := vs = #[.agg #[.int .i64 0, .int .i64 0, .int .i64 0, .int .i64 0]]
def EarG (hi : Int) (k : Nat) (vs : Array Value) (_ : World) : Prop := vs = #[.int .i64 hi]
theorem eg_bef : Enters Tryz.prog 172 := enters_of Tryz.func172 (by kernel_rfl) rfl
theorem eg_ear : Enters Tryz.prog 156 := enters_of Tryz.func156 (by kernel_rfl) rfl
/-- What the elder blocks hold, beside the plan's own. -/
structure Own4 (p : Pl) (g1 g2 g3 g4 : Nat) (d : Int) (T : Option Addr) (n c : Nat) (w : World) : Prop where
  kp : Blk w g1 214 #[.pointer (some ⟨p.c, 0, none⟩), .map (some p.m2)]
  ks : Blk w g3 3 #[.int .i64 1]
  kx : Blk w g4 224 #[.int .i64 0, .int .i64 d]
  kt : Blk w g2 33 #[.slice T n c]
section
variable {p : Pl} {g1 g2 g3 g4 : Nat} {d : Int} {T : Option Addr} {n c : Nat}
theorem BefL.own {w : World} (h : BefL p g3 g4 g1 g2 d T n c w) : Own4 p g1 g2 g3 g4 d T n c w := ⟨h.kp, h.ks, h.kx, h.kt⟩
theorem Own4.befL {w : World} (h : Own4 p g1 g2 g3 g4 d T n c w) (hI : InvC p w) : BefL p g3 g4 g1 g2 d T n c w := ⟨hI, h.kp, h.ks, h.kx, h.kt⟩
theorem Own4.calmH {B : Nat} {w0 A A' : World} (h : Own4 p g1 g2 g3 g4 d T n c A) (hlt : ∀ k, HM p k → k < w0.heap.size) (h0 : BefL p g3 g4 g1 g2 d T n c w0) (hc : CalmH (HM p) B A A') : Own4 p g1 g2 g3 g4 d T n c A' :=
  ⟨calmH_blk hc h.kp (h0.inv.off h0.kp), calmH_blk hc h.ks (h0.inv.off h0.ks), calmH_blk hc h.kx (h0.inv.off h0.kx), calmH_blk hc h.kt (h0.inv.off h0.kt)⟩
theorem BefL.nc {B : Nat} {gs gx gp gt : Nat} {A A' : World} (h : BefL p gs gx gp gt d T n c A) (hn : NC B A A') (hI : InvC p A') (hB : B ≤ gs ∧ B ≤ gx ∧ B ≤ gp ∧ B ≤ gt) : BefL p gs gx gp gt d T n c A' :=
  ⟨hI, nc_blk hn h.kp hB.2.2.1, nc_blk hn h.ks hB.1, nc_blk hn h.kx hB.2.1, nc_blk hn h.kt hB.2.2.2⟩
end
theorem bef_iter (m : Nat) (p : Pl) (gs gx gp gt : Nat) (d : Int) (T : Option Addr) (n c : Nat) :
    IterH Fence.wide m Tryz.prog (HM p) 172 #[.pointer (some ⟨gs, 0, none⟩), .pointer (some ⟨gx, 0, none⟩), .pointer (some ⟨gp, 0, none⟩), .pointer (some ⟨gt, 0, none⟩)] 1 BefG (BefL p gs gx gp gt d T n c) := by
  intro l J Jx W hJ hJx hY hL h0
  have hst := @hstT Tryz.prog
  have b0 := (Below.refl W.heap.size W).alloc (Nat.le_refl _) (.cells #[.func (.yield l) #[] #[]] 302)
  have kY := Blk.new W 302 #[.func (.yield l) #[] #[]]
  refine callsIn_of_wp Tryz.func172 rfl trivial ?_ rfl
  simp only [Tryz.ntmps172, List.size_toArray, List.length_cons, List.length_nil, Nat.reduceAdd, Nat.reduceSub, Array.replicate_succ, Array.replicate_zero, List.push_toArray, List.append_toArray, List.nil_append, List.cons_append]
  gi_upto_region 1 with fail
  have e1 : IntKind.i64.wrap 1 = 1 := by decide
  have e2 : bits BinOp.andNot IntKind.i64 1 1 = 0 := by decide
  replace hL := hL.below b0
  have hI := hL.inv
  generalize W.alloc (.cells #[.func (.yield l) #[] #[]] 302) = W0 at *
  have hWs : W.heap.size ≤ W0.heap.size := b0.size
  refine wpIn_heldI (fun w' : World => (∀ j, w'.cell? ⟨gs, j, none⟩ = #[Value.int .i64 1][j]?) ∧ (∀ j, w'.cell? ⟨gx, j, none⟩ = #[Value.int .i64 0, .int .i64 d][j]?)) (by kernel_rfl) ?_
  have hSb : Hid (∀ W', Below W0.heap.size W0 W' → (fun w' : World => (∀ j, w'.cell? ⟨gs, j, none⟩ = #[Value.int .i64 1][j]?) ∧ (∀ j, w'.cell? ⟨gx, j, none⟩ = #[Value.int .i64 0, .int .i64 d][j]?)) W') := by
    show ∀ _, _
    intro W' hbb
    exact ⟨(hL.ks.below hbb).cell, (hL.kx.below hbb).cell⟩
  have hb9 : Below W0.heap.size W0 W0.drew := (Below.refl _ _).drew
  have hS := hSb.out _ hb9
  have hg9 : W0.heap.size ≤ W0.drew.heap.size := Nat.le_refl _
  generalize W0.drew = wd at *
  refine hTkI 0 9 ?_
  refine hTkI 1 10 ?_
  refine hTkI 2 11 ?_
  refine hTkI 3 12 ?_
  refine hTkI 4 13 ?_
  refine hOneI 5 fun K hK => ?_
  go_simp
  have k6 := Blk.new wd 3 #[.int .i64 0]
  have hg_g6 := hb9.size
  replace hb9 := hb9.alloc hb9.size (.cells #[.int .i64 0] 3)
  refine hK _ _ (hSb.out _ hb9) ?_
  clear hK K
  try simp only [Act.put, sA, sZ, sS]
  clear hS
  have hS := hSb.out _ hb9
  generalize wd.heap.size = g6 at *
  generalize wd.alloc (.cells #[.int .i64 0] 3) = w5 at *
  have kz := (k6.set_ 0 (.int .i64 0))
  simp only [sA, sZ, sS] at kz
  have bz := (hb9.setCell (p := ⟨g6, 0, none⟩) (by dsimp only; omega) (.int .i64 0))
  obtain ⟨w6, hwz⟩ : ∃ x, x = (w5.setCell ⟨g6, 0, none⟩ (.int .i64 0)) := ⟨_, rfl⟩
  rw [← hwz] at kz bz
  obtain ⟨c9, f9, l9⟩ := k6.rules
  refine hOneI 6 fun K hK => ?_
  go_simp
  rw [← hwz]
  clear hwz c9 f9 l9 hb9 k6
  have hb9 := bz
  have k6 := kz
  clear bz kz
  refine hK _ _ (hSb.out _ hb9) ?_
  clear hK K
  try simp only [Act.put, sA, sZ, sS]
  clear hS
  have hS := hSb.out _ hb9
  refine heldI_done (by kernel_rfl) (noPanic_normal ?_) _
  clear hS hSb
  replace hL := hL.below hb9
  replace kY := kY.below hb9
  replace b0 := b0.trans (hb9.mono b0.size)
  replace hWs := Nat.le_trans hWs hb9.size
  clear hb9 hg9 hg_g6
  obtain ⟨c6, f6, l6⟩ := k6.rules
  gi_wp2_with fail
  clear c6 f6 l6 k6
  refine wpIn_heldI (fun w' : World => (∀ j, w'.cell? ⟨W.heap.size, j, none⟩ = #[Value.func (.yield l) #[] #[]][j]?) ∧ (∀ j, w'.cell? ⟨gp, j, none⟩ = #[Value.pointer (some ⟨p.c, 0, none⟩), .map (some p.m2)][j]?)) (by kernel_rfl) ?_
  have hSb : Hid (∀ W', Below w6.heap.size w6 W' → (fun w' : World => (∀ j, w'.cell? ⟨W.heap.size, j, none⟩ = #[Value.func (.yield l) #[] #[]][j]?) ∧ (∀ j, w'.cell? ⟨gp, j, none⟩ = #[Value.pointer (some ⟨p.c, 0, none⟩), .map (some p.m2)][j]?)) W') := by
    show ∀ _, _
    intro W' hbb
    exact ⟨(kY.below hbb).cell, (hL.kp.below hbb).cell⟩
  have hb9 : Below w6.heap.size w6 w6.drew := (Below.refl _ _).drew
  have hS := hSb.out _ hb9
  have hg9 : w6.heap.size ≤ w6.drew.heap.size := Nat.le_refl _
  generalize w6.drew = we at *
  refine hTkI 0 16 ?_
  refine hTkI 1 17 ?_
  refine hOneI 2 fun K hK => ?_
  go_simp
  refine (start_any p _ (hL.inv.below hb9)).mono ?_
  rintro e X1 ⟨rfl, hbel⟩
  replace hb9 := hb9.trans (hbel.mono hb9.size)
  clear hbel
  refine hK _ _ (hSb.out _ hb9) ?_
  clear hK K
  try simp only [Act.put, sA, sZ, sS]
  clear hS
  have hS := hSb.out _ hb9
  replace hL := hL.below hb9
  replace kY := kY.below hb9
  replace b0 := b0.trans (hb9.mono b0.size)
  replace hWs := Nat.le_trans hWs hb9.size
  clear hb9 hg9
  obtain ⟨fn, tmps, assign, body, hy, hR⟩ := hY 0 #[.agg #[.int .i64 0, .int .i64 0, .int .i64 0, .int .i64 0]] X1 (by decide) (hJ _ _ _ h0 (calmH_of (belowH_of b0) (Nat.le_refl _))) hL rfl
  refine heldI_yield (i := 3) (by kernel_rfl) rfl rfl (fun K hK => ?_)
  refine ⟨fun _ _ => trivial, ?_⟩
  rw [show Fence.wide.round = none from rfl, Oper.semAt_none]
  go_simp
  refine ⟨fun h => (by cases h), (RoundIn.anyn hR).mono ?_⟩
  clear hR hy hL h0 hS hSb
  rintro e X2 (⟨rfl, h0, hL, hn⟩ | ⟨rfl, h0, hL, hn⟩)
  · have hS : (fun w' : World => (∀ j, w'.cell? ⟨W.heap.size, j, none⟩ = #[Value.func (.yield l) #[] #[]][j]?) ∧ (∀ j, w'.cell? ⟨gp, j, none⟩ = #[Value.pointer (some ⟨p.c, 0, none⟩), .map (some p.m2)][j]?)) X2 := ⟨(nc_blk hn kY (Nat.le_refl _)).cell, hL.kp.cell⟩
    refine hK _ _ hS ?_
    clear hK K
    try simp only [Act.put, sA, sZ, sS]
    refine heldI_done (by kernel_rfl) (noPanic_normal ?_) _
    clear hS
    gi_wp2_with fail
    refine bodyPost_ret (results_none rfl _ _ _) rfl ?_
    exact ⟨⟨_, rfl⟩, .inl ⟨h0, hL⟩⟩
  · have hS : (fun w' : World => (∀ j, w'.cell? ⟨W.heap.size, j, none⟩ = #[Value.func (.yield l) #[] #[]][j]?) ∧ (∀ j, w'.cell? ⟨gp, j, none⟩ = #[Value.pointer (some ⟨p.c, 0, none⟩), .map (some p.m2)][j]?)) X2 := ⟨(nc_blk hn kY (Nat.le_refl _)).cell, hL.kp.cell⟩
    refine hK _ _ hS ?_
    clear hK K
    try simp only [Act.put, sA, sZ, sS]
    refine heldI_done (by kernel_rfl) (noPanic_normal ?_) _
    clear hS
    gi_wp2_with fail
    refine bodyPost_ret (results_none rfl _ _ _) rfl ?_
    exact ⟨⟨_, rfl⟩, .inr ⟨h0, hL⟩⟩
theorem before_any (p : Pl) (d : Int) (T : Option Addr) (n c : Nat) (w : World) : Calls Tryz.prog 157 #[.agg #[.pointer (some ⟨p.c, 0, none⟩), .map (some p.m2)], .slice T n c, .int .i64 1, .agg #[.int .i64 0, .int .i64 d]] w fun e w' => e = .returned (.func (.func 172) #[] #[.pointer (some ⟨w.heap.size + 2, 0, none⟩), .pointer (some ⟨w.heap.size + 3, 0, none⟩), .pointer (some ⟨w.heap.size, 0, none⟩), .pointer (some ⟨w.heap.size + 1, 0, none⟩)]) ∧ w' = (((w.alloc (.cells #[.pointer (some ⟨p.c, 0, none⟩), .map (some p.m2)] 214)).alloc (.cells #[.slice T n c] 33)).alloc (.cells #[.int .i64 1] 3)).alloc (.cells #[.int .i64 0, .int .i64 d] 224) := by
  have hmf := @hmfT Tryz.prog
  go_enter Tryz.func157, Tryz.ntmps157
  go_wp2
  go_ret
  exact ⟨rfl, rfl⟩
theorem earliest_any (p : Pl) (d : Int) (T : Option Addr) (n c : Nat) (w : World) : Calls Tryz.prog 140 #[.agg #[.pointer (some ⟨p.c, 0, none⟩), .map (some p.m2)], .slice T n c, .int .i64 1, .agg #[.int .i64 0, .int .i64 d]] w fun e w' => e = .returned (.func (.func 156) #[] #[.pointer (some ⟨w.heap.size, 0, none⟩), .pointer (some ⟨w.heap.size + 1, 0, none⟩), .pointer (some ⟨w.heap.size + 2, 0, none⟩), .pointer (some ⟨w.heap.size + 3, 0, none⟩)]) ∧ w' = (((w.alloc (.cells #[.pointer (some ⟨p.c, 0, none⟩), .map (some p.m2)] 214)).alloc (.cells #[.slice T n c] 33)).alloc (.cells #[.int .i64 1] 3)).alloc (.cells #[.int .i64 0, .int .i64 d] 224) := by
  have hmf := @hmfT Tryz.prog
  go_enter Tryz.func140, Tryz.ntmps140
  go_wp2
  go_ret
  exact ⟨rfl, rfl⟩
theorem earA_iter (m : Nat) (hm : 2 ≤ m) (p : Pl) (g1 g2 g3 g4 : Nat) (T : Option Addr) (n c : Nat) :
    IterH Fence.wide m Tryz.prog (HM p) 156 #[.pointer (some ⟨g1, 0, none⟩), .pointer (some ⟨g2, 0, none⟩), .pointer (some ⟨g3, 0, none⟩), .pointer (some ⟨g4, 0, none⟩)] 1 (EarG 12) (BefL p g3 g4 g1 g2 0 T n c) := by
  intro l J Jx W hJ hJx hY hL h0
  have hm1 : 1 ≤ m := by omega
  have hst := @hstT Tryz.prog
  have b0 := (Below.refl W.heap.size W).alloc (Nat.le_refl _) (.cells #[.func (.yield l) #[] #[]] 93)
  have kY := Blk.new W 93 #[.func (.yield l) #[] #[]]
  refine callsIn_of_wp_marks Tryz.func156 rfl trivial ?_ rfl
  simp only [Tryz.ntmps156, List.size_toArray, List.length_cons, List.length_nil, Nat.reduceAdd, Nat.reduceSub, Array.replicate_succ, Array.replicate_zero, List.push_toArray, List.append_toArray, List.nil_append, List.cons_append]
  gi_upto_region 1 with fail
  have hlt := hL.inv.lt
  have hLw := hL
  have hgv : W.heap.size ≤ (W.alloc (.cells #[.func (.yield l) #[] #[]] 93)).heap.size := b0.size
  replace hL := hL.below b0
  generalize W.alloc (.cells #[.func (.yield l) #[] #[]] 93) = V0 at *
  obtain ⟨c1, f1, l1⟩ := hL.kp.rules
  obtain ⟨c2, f2, l2⟩ := hL.kt.rules
  obtain ⟨c3, f3, l3⟩ := hL.ks.rules
  obtain ⟨c4, f4, l4⟩ := hL.kx.rules
  gi_wp2_with fail
  clear c1 f1 l1 c2 f2 l2 c3 f3 l3 c4 f4 l4
  refine ⟨trivial, ?_⟩
  refine (callsIn_wide.2 (before_any p 0 T n c _)).mono ?_
  rintro e W0 ⟨rfl, hW0⟩
  have hb : Below V0.heap.size V0 W0 := by rw [hW0]; exact ((((Below.refl _ _).alloc (Nat.le_refl _) _).alloc (by simp) _).alloc (by simp; omega) _).alloc (by simp; omega) _
  have hB : BefL p (V0.heap.size + 2) (V0.heap.size + 3) V0.heap.size (V0.heap.size + 1) 0 T n c W0 := ⟨hL.inv.below hb, by rw [hW0]; exact (((Blk.new _ _ _).alloc _).alloc _).alloc _, by rw [hW0]; exact (Blk.newAt (by simp)).alloc _, by rw [hW0]; exact Blk.newAt (by simp), by rw [hW0]; exact ((Blk.newAt (by simp)).alloc _).alloc _⟩
  clear hW0
  replace hL := hL.below hb
  replace kY := kY.below hb
  replace b0 := b0.trans (hb.mono b0.size)
  clear hb
  have hWs : W.heap.size ≤ W0.heap.size := b0.size
  gi_wp2_with fail
  have hYn : ¬ HM p W.heap.size := fun h => by have := hlt _ h; omega
  generalize V0.heap.size = gv at *
  refine wp_rangeH rfl hm1 (gf := 172) (lb := #[.pointer (some ⟨gv + 2, 0, none⟩), .pointer (some ⟨gv + 3, 0, none⟩), .pointer (some ⟨gv, 0, none⟩), .pointer (some ⟨gv + 1, 0, none⟩)]) rfl trivial eg_bef (bef_iter _ p _ _ _ _ 0 T n c) (fun k vs W e => by rw [e]; rfl)
    (fun i A => Blk A W.heap.size 93 #[.func (.yield l) #[] #[]] ∧ J i A ∧ Own4 p g1 g2 g3 g4 0 T n c A) (fun c' A => c' = .ret ∧ Jx A ∧ Own4 p g1 g2 g3 g4 0 T n c A)
    (fun k A B h hc => ⟨calmH_blk hc h.1 hYn, hJ _ _ _ h.2.1 (hc.mono hWs), h.2.2.calmH hlt hLw hc⟩) (fun _ A B h hc => ⟨h.1, hJx _ _ h.2.1 (hc.mono hWs), h.2.2.calmH hlt hLw hc⟩) (fun A B h hc => h.calm hL.inv hc) hL.inv.lt ⟨kY, hJ _ _ _ h0 (calmH_of (belowH_of b0) (Nat.le_refl _)), hL.own⟩ hB ?round ?done ?stop
  case stop =>
    rintro D cc W3 hD ⟨rfl, hj, ho⟩ hb3 hK
    gi_wp2_with fail
    have hcp := calm_put (B := W.heap.size) (.deferred none) hK rfl (by omega)
    exact ⟨by simp, .inl ⟨_, _, rfl, run_takeDeferred hK, _, results_none rfl _ _ _, ⟨_, rfl⟩, .inr ⟨hJx _ _ hj hcp.h, (ho.befL hb3.inv).calm hLw.inv hcp⟩⟩⟩
  case done =>
    rintro D W3 hD ⟨-, hj, ho⟩ hb3 hK
    gi_wp2_with fail
    have hcp := calm_put (B := W.heap.size) (.deferred none) hK rfl (by omega)
    exact ⟨by simp, .inl ⟨_, _, rfl, run_takeDeferred hK, _, results_none rfl _ _ _, ⟨_, rfl⟩, .inl ⟨hJ _ _ _ hj hcp.h, (ho.befL hb3.inv).calm hLw.inv hcp⟩⟩⟩
  case round =>
    rintro lr k vs W3 hW hk ⟨kY, hj, ho⟩ hb3 rfl
    obtain rfl : k = 0 := by omega
    gi_wp2_with fail
    refine ⟨(Below.refl _ _).alloc (Nat.le_refl _) _, fun W4 hc => ?_⟩
    have hc3 : Calm W0.heap.size W3 W4 := (calm_of_below ((Below.refl _ _).alloc (Nat.le_refl _) _) hW).trans hc
    have k6 : Blk W4 W3.heap.size 229 #[.int .i64 0, .int .i64 0, .int .i64 0, .int .i64 0] := calm_blk hc (Blk.new _ _ _)
    replace kY := calm_blk hc3 kY
    replace hb3 := hb3.calm hL.inv hc3
    replace ho := ho.calmH hlt hLw hc3.h
    replace hj := hJ _ _ _ hj (hc3.h.mono hWs)
    have hs4 : W3.heap.size < W4.heap.size := k6.lt
    clear hc hc3
    have hoB := ho.befL hb3.inv
    obtain ⟨c1, f1, l1⟩ := hoB.kp.rules
    obtain ⟨c4, f4, l4⟩ := hoB.kx.rules
    obtain ⟨c6, f6, l6⟩ := k6.rules
    gi_wp2_with fail
    clear c1 f1 l1 c4 f4 l4 c6 f6 l6
    refine ⟨trivial, fun h => (by cases h), ?_⟩
    refine (CallsIn.inRound lr (callsIn_wide.2 (goesA_any p _ hb3.inv))).mono ?_
    rintro e W5 ⟨rfl, hI5, hb⟩
    replace kY := hb.blk kY kY.lt hYn
    have hL5 := hoB.next hI5 hb
    have hb5 := hb3.next hI5 hb
    have hn5 : NC W0.heap.size W4 W5 := ncH_of hb hL.inv.lt
    replace hj := hJ _ _ _ hj (calmH_of hb (by omega))
    have hs5 := hb.size
    clear hb hb3 ho hoB
    have b7 := (Below.refl W5.heap.size W5).alloc (Nat.le_refl _) (.cells #[.int .i64 7, .int .i64 12] 26)
    have k7 := Blk.new W5 26 #[.int .i64 7, .int .i64 12]
    gi_upto_region 4 with fail
    replace kY := kY.below b7
    replace hL5 := hL5.below b7
    replace hb5 := hb5.below b7
    replace hj := hJ _ _ _ hj (calmH_of (belowH_of b7) (by omega))
    replace hn5 := hn5.trans (nc_of_below b7)
    clear b7
    generalize W5.alloc (.cells #[.int .i64 7, .int .i64 12] 26) = W6 at *
    generalize W5.heap.size = g7 at *
    obtain ⟨fn, tmps, assign, body, hy, hR⟩ := hY 0 #[.int .i64 12] W6 (by decide) hj hL5 rfl
    obtain ⟨cY, fY, lY⟩ := kY.rules
    obtain ⟨c7, f7, l7⟩ := k7.rules
    gi_wp2_with fail
    refine ⟨fun h => (by cases h), (RoundIn.anyl hR).mono ?_⟩
    clear hR hy cY fY lY c7 f7 l7
    rintro e W7 (⟨rfl, hj7, hL7, hn7⟩ | ⟨rfl, hj7, hL7, hn7⟩)
    · gi_wp2_with fail
      exact ⟨hn5.trans (hn7.mono hWs), ⟨nc_blk hn7 kY (Nat.le_refl _), hj7, hL7.own⟩, hb5.nc hn7 hL7.inv (by omega)⟩
    · gi_wp2_with fail
      exact ⟨hn5.trans (hn7.mono hWs), ⟨rfl, hj7, hL7.own⟩, hb5.nc hn7 hL7.inv (by omega)⟩
theorem earB_iter (m : Nat) (hm : 2 ≤ m) (p : Pl) (g1 g2 g3 g4 : Nat) (T : Option Addr) (n c : Nat) :
    IterH Fence.wide m Tryz.prog (HM p) 156 #[.pointer (some ⟨g1, 0, none⟩), .pointer (some ⟨g2, 0, none⟩), .pointer (some ⟨g3, 0, none⟩), .pointer (some ⟨g4, 0, none⟩)] 1 (EarG 19) (BefL p g3 g4 g1 g2 1 T n c) := by
  intro l J Jx W hJ hJx hY hL h0
  have hm1 : 1 ≤ m := by omega
  have hst := @hstT Tryz.prog
  have b0 := (Below.refl W.heap.size W).alloc (Nat.le_refl _) (.cells #[.func (.yield l) #[] #[]] 93)
  have kY := Blk.new W 93 #[.func (.yield l) #[] #[]]
  refine callsIn_of_wp_marks Tryz.func156 rfl trivial ?_ rfl
  simp only [Tryz.ntmps156, List.size_toArray, List.length_cons, List.length_nil, Nat.reduceAdd, Nat.reduceSub, Array.replicate_succ, Array.replicate_zero, List.push_toArray, List.append_toArray, List.nil_append, List.cons_append]
  gi_upto_region 1 with fail
  have hlt := hL.inv.lt
  have hLw := hL
  have hgv : W.heap.size ≤ (W.alloc (.cells #[.func (.yield l) #[] #[]] 93)).heap.size := b0.size
  replace hL := hL.below b0
  generalize W.alloc (.cells #[.func (.yield l) #[] #[]] 93) = V0 at *
  obtain ⟨c1, f1, l1⟩ := hL.kp.rules
  obtain ⟨c2, f2, l2⟩ := hL.kt.rules
  obtain ⟨c3, f3, l3⟩ := hL.ks.rules
  obtain ⟨c4, f4, l4⟩ := hL.kx.rules
  gi_wp2_with fail
  clear c1 f1 l1 c2 f2 l2 c3 f3 l3 c4 f4 l4
  refine ⟨trivial, ?_⟩
  refine (callsIn_wide.2 (before_any p 1 T n c _)).mono ?_
  rintro e W0 ⟨rfl, hW0⟩
  have hb : Below V0.heap.size V0 W0 := by rw [hW0]; exact ((((Below.refl _ _).alloc (Nat.le_refl _) _).alloc (by simp) _).alloc (by simp; omega) _).alloc (by simp; omega) _
  have hB : BefL p (V0.heap.size + 2) (V0.heap.size + 3) V0.heap.size (V0.heap.size + 1) 1 T n c W0 := ⟨hL.inv.below hb, by rw [hW0]; exact (((Blk.new _ _ _).alloc _).alloc _).alloc _, by rw [hW0]; exact (Blk.newAt (by simp)).alloc _, by rw [hW0]; exact Blk.newAt (by simp), by rw [hW0]; exact ((Blk.newAt (by simp)).alloc _).alloc _⟩
  clear hW0
  replace hL := hL.below hb
  replace kY := kY.below hb
  replace b0 := b0.trans (hb.mono b0.size)
  clear hb
  have hWs : W.heap.size ≤ W0.heap.size := b0.size
  gi_wp2_with fail
  have hYn : ¬ HM p W.heap.size := fun h => by have := hlt _ h; omega
  generalize V0.heap.size = gv at *
  refine wp_rangeH rfl hm1 (gf := 172) (lb := #[.pointer (some ⟨gv + 2, 0, none⟩), .pointer (some ⟨gv + 3, 0, none⟩), .pointer (some ⟨gv, 0, none⟩), .pointer (some ⟨gv + 1, 0, none⟩)]) rfl trivial eg_bef (bef_iter _ p _ _ _ _ 1 T n c) (fun k vs W e => by rw [e]; rfl)
    (fun i A => Blk A W.heap.size 93 #[.func (.yield l) #[] #[]] ∧ J i A ∧ Own4 p g1 g2 g3 g4 1 T n c A) (fun c' A => c' = .ret ∧ Jx A ∧ Own4 p g1 g2 g3 g4 1 T n c A)
    (fun k A B h hc => ⟨calmH_blk hc h.1 hYn, hJ _ _ _ h.2.1 (hc.mono hWs), h.2.2.calmH hlt hLw hc⟩) (fun _ A B h hc => ⟨h.1, hJx _ _ h.2.1 (hc.mono hWs), h.2.2.calmH hlt hLw hc⟩) (fun A B h hc => h.calm hL.inv hc) hL.inv.lt ⟨kY, hJ _ _ _ h0 (calmH_of (belowH_of b0) (Nat.le_refl _)), hL.own⟩ hB ?round ?done ?stop
  case stop =>
    rintro D cc W3 hD ⟨rfl, hj, ho⟩ hb3 hK
    gi_wp2_with fail
    have hcp := calm_put (B := W.heap.size) (.deferred none) hK rfl (by omega)
    exact ⟨by simp, .inl ⟨_, _, rfl, run_takeDeferred hK, _, results_none rfl _ _ _, ⟨_, rfl⟩, .inr ⟨hJx _ _ hj hcp.h, (ho.befL hb3.inv).calm hLw.inv hcp⟩⟩⟩
  case done =>
    rintro D W3 hD ⟨-, hj, ho⟩ hb3 hK
    gi_wp2_with fail
    have hcp := calm_put (B := W.heap.size) (.deferred none) hK rfl (by omega)
    exact ⟨by simp, .inl ⟨_, _, rfl, run_takeDeferred hK, _, results_none rfl _ _ _, ⟨_, rfl⟩, .inl ⟨hJ _ _ _ hj hcp.h, (ho.befL hb3.inv).calm hLw.inv hcp⟩⟩⟩
  case round =>
    rintro lr k vs W3 hW hk ⟨kY, hj, ho⟩ hb3 rfl
    obtain rfl : k = 0 := by omega
    gi_wp2_with fail
    refine ⟨(Below.refl _ _).alloc (Nat.le_refl _) _, fun W4 hc => ?_⟩
    have hc3 : Calm W0.heap.size W3 W4 := (calm_of_below ((Below.refl _ _).alloc (Nat.le_refl _) _) hW).trans hc
    have k6 : Blk W4 W3.heap.size 229 #[.int .i64 0, .int .i64 0, .int .i64 0, .int .i64 0] := calm_blk hc (Blk.new _ _ _)
    replace kY := calm_blk hc3 kY
    replace hb3 := hb3.calm hL.inv hc3
    replace ho := ho.calmH hlt hLw hc3.h
    replace hj := hJ _ _ _ hj (hc3.h.mono hWs)
    have hs4 : W3.heap.size < W4.heap.size := k6.lt
    clear hc hc3
    have hoB := ho.befL hb3.inv
    obtain ⟨c1, f1, l1⟩ := hoB.kp.rules
    obtain ⟨c4, f4, l4⟩ := hoB.kx.rules
    obtain ⟨c6, f6, l6⟩ := k6.rules
    gi_wp2_with fail
    clear c1 f1 l1 c4 f4 l4 c6 f6 l6
    refine ⟨trivial, fun h => (by cases h), ?_⟩
    refine (CallsIn.inRound lr (callsIn_wide.2 (goesB_any p _ hb3.inv))).mono ?_
    rintro e W5 ⟨rfl, hI5, hb⟩
    replace kY := hb.blk kY kY.lt hYn
    have hL5 := hoB.next hI5 hb
    have hb5 := hb3.next hI5 hb
    have hn5 : NC W0.heap.size W4 W5 := ncH_of hb hL.inv.lt
    replace hj := hJ _ _ _ hj (calmH_of hb (by omega))
    have hs5 := hb.size
    clear hb hb3 ho hoB
    have b7 := (Below.refl W5.heap.size W5).alloc (Nat.le_refl _) (.cells #[.int .i64 14, .int .i64 19] 26)
    have k7 := Blk.new W5 26 #[.int .i64 14, .int .i64 19]
    gi_upto_region 4 with fail
    replace kY := kY.below b7
    replace hL5 := hL5.below b7
    replace hb5 := hb5.below b7
    replace hj := hJ _ _ _ hj (calmH_of (belowH_of b7) (by omega))
    replace hn5 := hn5.trans (nc_of_below b7)
    clear b7
    generalize W5.alloc (.cells #[.int .i64 14, .int .i64 19] 26) = W6 at *
    generalize W5.heap.size = g7 at *
    obtain ⟨fn, tmps, assign, body, hy, hR⟩ := hY 0 #[.int .i64 19] W6 (by decide) hj hL5 rfl
    obtain ⟨cY, fY, lY⟩ := kY.rules
    obtain ⟨c7, f7, l7⟩ := k7.rules
    gi_wp2_with fail
    refine ⟨fun h => (by cases h), (RoundIn.anyl hR).mono ?_⟩
    clear hR hy cY fY lY c7 f7 l7
    rintro e W7 (⟨rfl, hj7, hL7, hn7⟩ | ⟨rfl, hj7, hL7, hn7⟩)
    · gi_wp2_with fail
      exact ⟨hn5.trans (hn7.mono hWs), ⟨nc_blk hn7 kY (Nat.le_refl _), hj7, hL7.own⟩, hb5.nc hn7 hL7.inv (by omega)⟩
    · gi_wp2_with fail
      exact ⟨hn5.trans (hn7.mono hWs), ⟨rfl, hj7, hL7.own⟩, hb5.nc hn7 hL7.inv (by omega)⟩
end Go.Proofs.YtcmbmmpihiekhaaGreat
