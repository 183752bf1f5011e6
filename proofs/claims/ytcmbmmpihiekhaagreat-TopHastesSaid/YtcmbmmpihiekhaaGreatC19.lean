/-
  Courses, walks: the search for the order at the example.
-/
import Derived.Test.YtcmbmmpihiekhaaGreatC18
set_option maxRecDepth 100000
set_option maxHeartbeats 16000000
set_option linter.unusedSimpArgs false
set_option linter.unusedVariables false
namespace Go.Proofs.YtcmbmmpihiekhaaGreat
open Go.RowKit Go.Shelf
attribute [local go_sem] Oper.semAt_some

def H2 (p : Pl) (gf : Nat) (k : Nat) : Prop := HM p k ∨ k = gf
theorem BelowH.weak {H H' : Nat → Prop} {B : Nat} {w w' : World} (h : BelowH H B w w') (hh : ∀ k, H k → H' k) : BelowH H' B w w' := ⟨h.os, h.tape, h.output, h.size, fun k hk hn => h.block k hk (fun e => hn (hh k e))⟩
theorem belowH_cell {B : Nat} (w : World) (g o : Nat) (v : Value) : BelowH (fun k => k = g) B w (w.setCell ⟨g, o, none⟩ v) :=
  ⟨rfl, rfl, rfl, by simp [World.setCell], fun k _ hk => Below.heap_setCell w ⟨g, o, none⟩ v k (by dsimp only; exact hk)⟩
theorem Tryz.infoShoot : (Tryz.prog.info? 224).map (fun i => (i.zero, i.size, i.bytes)) = some (some (.agg #[.int .i64 0, .int .i64 0]), 2, 16) := by kernel_rfl
/-- What the search keeps. -/
structure NbI (p : Pl) (w : World) (gf ge gp gn : Nat) (A : World) : Prop where
  b : BelowH (HM p) w.heap.size w A
  kl : Blk A w.heap.size 156 #[.slice none 0 0]
  kat : Blk A (w.heap.size + 1) 229 #[.int .i64 0, .int .i64 0, .int .i64 0, .int .i64 0]
  kle : Blk A (w.heap.size + 1 + 1) 3 #[.int .i64 1]
  k10 : Blk A (w.heap.size + 1 + 1 + 1) 4 #[.bool false]
  kf : Blk A gf 156 #[.slice none 0 0]
  ke : Blk A ge 3 #[.int .i64 12]
  kp : Blk A gp 214 #[.pointer (some ⟨p.c, 0, none⟩), .map (some p.m2)]
  kn : Blk A gn 226 #[.func (.func 115) #[] #[.pointer (some ⟨gf, 0, none⟩), .pointer (some ⟨ge, 0, none⟩), .pointer (some ⟨gp, 0, none⟩), .pointer (some ⟨gn, 0, none⟩)]]
structure OffN (p : Pl) (w : World) (gf ge gp gn : Nat) : Prop where
  kl : ¬ HM p w.heap.size
  kat : ¬ HM p (w.heap.size + 1)
  kle : ¬ HM p (w.heap.size + 1 + 1)
  k10 : ¬ HM p (w.heap.size + 1 + 1 + 1)
  kf : ¬ HM p gf
  ke : ¬ HM p ge
  kp : ¬ HM p gp
  kn : ¬ HM p gn
/-- Where it has found one. -/
structure NbX (p : Pl) (w : World) (gf ge : Nat) (A : World) : Prop where
  b : BelowH (H2 p gf) w.heap.size w A
  kf : ∃ B n c, Blk A gf 156 #[.slice B n c]
  ke : Blk A ge 3 #[.int .i64 12]
  k10 : Blk A (w.heap.size + 1 + 1 + 1) 4 #[.bool true]
theorem blk_ne {w : World} {g g' : Nat} {t t' : TypeId} {cs cs' : Array Value} (h : Blk w g t cs) (h' : Blk w g' t' cs') (ht : t ≠ t') : g ≠ g' := fun e => by
  subst e
  unfold Blk at h h'
  rw [h] at h'
  injection h' with e1
  injection e1 with e2 e3
  exact ht e3
theorem InvC.nextG {p : Pl} {w w' : World} {gf : Nat} {cs : Array Value} (h : InvC p w) (kf : Blk w gf 156 cs) (hb : BelowH (fun k => k = gf) w.heap.size w w') : InvC p w' := by
  obtain ⟨f1, h1⟩ := h.kn
  obtain ⟨f2, h2⟩ := h.co
  obtain ⟨e1, n1, q1⟩ := h1.map
  obtain ⟨e2, n2, q2⟩ := h2.map
  exact ⟨hb.blk h.kc h.kc.lt (blk_ne h.kc kf (by decide)), hb.blk h.kL h.kL.lt (blk_ne h.kL kf (by decide)), hb.blk h.kO h.kO.lt (blk_ne h.kO kf (by decide)), hb.blk h.kB h.kB.lt (blk_ne h.kB kf (by decide)),
    ⟨f1, h1.block (hb.block _ h1.lt (fun e => blk_map kf q1 e.symm))⟩, ⟨f2, h2.block (hb.block _ h2.lt (fun e => blk_map kf q2 e.symm))⟩, h.ne⟩
theorem ShoL.nextG {p : Pl} {g5 g6 : Nat} {st : Int} {w w' : World} {gf : Nat} {cs : Array Value} (h : ShoL p g5 g6 st w) (kf : Blk w gf 156 cs) (hb : BelowH (fun k => k = gf) w.heap.size w w') : ShoL p g5 g6 st w' :=
  ⟨h.inv.nextG kf hb, hb.blk h.kp h.kp.lt (blk_ne h.kp kf (by decide)), hb.blk h.ks h.ks.lt (blk_ne h.ks kf (by decide))⟩
theorem ShoL.set_ {p : Pl} {g5 g6 : Nat} {st : Int} {w0 w : World} (h : ShoL p g5 g6 st w) (h0 : InvC p w0) {g o : Nat} (hg : w0.heap.size ≤ g) (h5 : g ≠ g5) (h6 : g ≠ g6) (v : Value) : ShoL p g5 g6 st (w.setCell ⟨g, o, none⟩ v) :=
  ⟨h.inv.set_ h0 hg v, h.kp.far (by dsimp only; omega) v, h.ks.far (by dsimp only; omega) v⟩
theorem NbI.calm {p : Pl} {w A B : World} {gf ge gp gn B0 : Nat} (h : NbI p w gf ge gp gn A) (ho : OffN p w gf ge gp gn) (hB : w.heap.size ≤ B0) (hc : CalmH (HM p) B0 A B) : NbI p w gf ge gp gn B :=
  ⟨h.b.trans (hc.1.mono hB), calmH_blk hc h.kl ho.kl, calmH_blk hc h.kat ho.kat, calmH_blk hc h.kle ho.kle, calmH_blk hc h.k10 ho.k10, calmH_blk hc h.kf ho.kf, calmH_blk hc h.ke ho.ke, calmH_blk hc h.kp ho.kp, calmH_blk hc h.kn ho.kn⟩
theorem NbX.calm {p : Pl} {w A B : World} {gf ge gp gn B0 : Nat} (h : NbX p w gf ge A) (ho : OffN p w gf ge gp gn) (hB : w.heap.size ≤ B0) (hc : CalmH (HM p) B0 A B) : NbX p w gf ge B := by
  obtain ⟨b, n, c, k⟩ := h.kf
  exact ⟨h.b.trans ((hc.1.mono hB).weak fun _ => .inl), ⟨b, n, c, calmH_blk hc k ho.kf⟩, calmH_blk hc h.ke ho.ke, calmH_blk hc h.k10 ho.k10⟩
theorem CloneSh_nil (w : World) : Calls Tryz.prog 117 #[.slice none 0 0] w fun e w' => e = .returned (.slice none 0 0) ∧ w = w' := by
  have hnil := fun W => Lib.run_eql_slice_nil (P := Tryz.prog) W 156 224 none 0 0 0 0 Tryz.underlying156
  simp only [Option.isNone_none] at hnil
  go_enter Tryz.func117, Tryz.ntmps117
  go_wp2
  go_ret
  exact ⟨rfl, rfl⟩
theorem after_any (p : Pl) (w : World) (hI : InvC p w) :
    Calls Tryz.prog 118 #[.agg #[.pointer (some ⟨p.c, 0, none⟩), .map (some p.m2)], .agg #[.int .i64 0, .int .i64 0], .int .i64 12] w fun e w' => e = .returned (.agg #[.int .i64 10, .int .i64 0, .int .i64 0, .int .i64 12]) ∧ Below w.heap.size w w' := by
  obtain ⟨W, hW⟩ : ∃ W, W = ((w.alloc (.cells #[.pointer (some ⟨p.c, 0, none⟩), .map (some p.m2)] 214)).alloc (.cells #[.int .i64 0, .int .i64 0] 224)).alloc (.cells #[.int .i64 0, .int .i64 0, .int .i64 0, .int .i64 0] 229) := ⟨_, rfl⟩
  have k3 : Blk W w.heap.size 214 #[.pointer (some ⟨p.c, 0, none⟩), .map (some p.m2)] := by rw [hW]; exact ((Blk.new _ _ _).alloc _).alloc _
  have k4 : Blk W (w.heap.size + 1) 224 #[.int .i64 0, .int .i64 0] := by rw [hW]; exact (Blk.newAt (by simp)).alloc _
  have k6 : Blk W (w.heap.size + 1 + 1) 229 #[.int .i64 0, .int .i64 0, .int .i64 0, .int .i64 0] := by rw [hW]; exact Blk.newAt (by simp)
  have b : Below w.heap.size w W := by rw [hW]; exact (((Below.refl _ _).alloc (Nat.le_refl _) _).alloc (by simp) _).alloc (by simp; omega) _
  have hJ := hI.below b
  go_enter Tryz.func118, Tryz.ntmps118
  go_upto_region 1 with fail
  rw [← hW]
  clear hW
  obtain ⟨c3, f3, l3⟩ := k3.rules
  obtain ⟨c4, f4, l4⟩ := k4.rules
  go_wp2_with fail
  refine (endsA_any p _ hJ).mono ?_
  rintro e W1 ⟨rfl, hb⟩
  clear c3 f3 l3 c4 f4 l4
  replace k6 := k6.below hb
  replace b := b.trans (hb.mono b.size)
  clear hb
  have hb := ((Below.refl W1.heap.size W1).alloc (Nat.le_refl _) (.cells #[.int .i64 0, .int .i64 0, .int .i64 0] 227)).alloc (by simp) (.cells #[.int .i64 10, .int .i64 0, .int .i64 0] 227)
  have k8 : Blk ((W1.alloc (.cells #[.int .i64 0, .int .i64 0, .int .i64 0] 227)).alloc (.cells #[.int .i64 10, .int .i64 0, .int .i64 0] 227)) (W1.heap.size + 1) 227 #[.int .i64 10, .int .i64 0, .int .i64 0] := Blk.newAt (by simp)
  go_upto_region 2 with fail
  replace k6 := k6.below hb
  replace b := b.trans (hb.mono b.size)
  clear hb
  generalize (W1.alloc (.cells #[.int .i64 0, .int .i64 0, .int .i64 0] 227)).alloc (.cells #[.int .i64 10, .int .i64 0, .int .i64 0] 227) = W2 at *
  obtain ⟨c8, f8, l8⟩ := k8.rules
  obtain ⟨c6, f6, l6⟩ := k6.rules
  have kz := ((((k6.set_ 0 (.int .i64 10)).set_ 1 (.int .i64 0)).set_ 2 (.int .i64 0)).set_ 3 (.int .i64 12))
  simp only [sA, sZ, sS] at kz
  have bz := ((((b.setCell (p := ⟨w.heap.size + 1 + 1, 0, none⟩) (by dsimp only; omega) (.int .i64 10)).setCell (p := ⟨w.heap.size + 1 + 1, 1, none⟩) (by dsimp only; omega) (.int .i64 0)).setCell (p := ⟨w.heap.size + 1 + 1, 2, none⟩) (by dsimp only; omega) (.int .i64 0)).setCell (p := ⟨w.heap.size + 1 + 1, 3, none⟩) (by dsimp only; omega) (.int .i64 12))
  go_wp2
  clear c6 f6 l6 c8 f8 l8
  obtain ⟨c6, f6, l6⟩ := kz.rules
  exact bodyPost_ret (v := .agg #[.int .i64 10, .int .i64 0, .int .i64 0, .int .i64 12]) (by simp [results, Tryz.results118, go_sem, c6]) rfl ⟨rfl, bz⟩
theorem nb0_any (A : Option Addr) (n c gf ge gp gn : Nat) (vf : Value) (w : World) (kf : Blk w gf 156 #[vf]) (ke : Blk w ge 3 #[.int .i64 12]) (hne : ge ≠ gf) :
    Calls Tryz.prog 115 #[.slice A n c, .agg #[.int .i64 10, .int .i64 0, .int .i64 0, .int .i64 12], .int .i64 0, .pointer (some ⟨gf, 0, none⟩), .pointer (some ⟨ge, 0, none⟩), .pointer (some ⟨gp, 0, none⟩), .pointer (some ⟨gn, 0, none⟩)] w fun e w' => e = .returned (.bool true) ∧ Blk w' gf 156 #[.slice A n c] ∧ BelowH (fun k => k = gf) w.heap.size w w' := by
  obtain ⟨W, hW⟩ : ∃ W, W = (((w.alloc (.cells #[.slice A n c] 156)).alloc (.cells #[.int .i64 10, .int .i64 0, .int .i64 0, .int .i64 12] 229)).alloc (.cells #[.int .i64 0] 3)).alloc (.cells #[.bool false] 4) := ⟨_, rfl⟩
  have kl : Blk W w.heap.size 156 #[.slice A n c] := by rw [hW]; exact (((Blk.new _ _ _).alloc _).alloc _).alloc _
  have kat : Blk W (w.heap.size + 1) 229 #[.int .i64 10, .int .i64 0, .int .i64 0, .int .i64 12] := by rw [hW]; exact ((Blk.newAt (by simp)).alloc _).alloc _
  have kle : Blk W (w.heap.size + 1 + 1) 3 #[.int .i64 0] := by rw [hW]; exact (Blk.newAt (by simp)).alloc _
  have k10 : Blk W (w.heap.size + 1 + 1 + 1) 4 #[.bool false] := by rw [hW]; exact Blk.newAt (by simp)
  have b : Below w.heap.size w W := by rw [hW]; exact ((((Below.refl _ _).alloc (Nat.le_refl _) _).alloc (by simp) _).alloc (by simp; omega) _).alloc (by simp; omega) _
  have hfl := kf.lt
  have hel := ke.lt
  replace kf := kf.below b
  replace ke := ke.below b
  go_enter Tryz.func115, Tryz.ntmps115
  go_wp2_with fail
  rw [← hW]
  clear hW
  have kfz := (kf.set_ 0 (.slice A n c)).far (p := ⟨w.heap.size + 1 + 1 + 1, 0, none⟩) (by dsimp only; omega) (.bool true)
  have kzz := (k10.far (p := ⟨gf, 0, none⟩) (by dsimp only; omega) (.slice A n c)).set_ 0 (.bool true)
  simp only [sA, sZ, sS] at kfz kzz
  have bz : BelowH (fun k => k = gf) w.heap.size w ((W.setCell ⟨gf, 0, none⟩ (.slice A n c)).setCell ⟨w.heap.size + 1 + 1 + 1, 0, none⟩ (.bool true)) := ((belowH_of b).trans (belowH_cell W gf 0 (.slice A n c))).trans (belowH_of ((Below.refl w.heap.size _).setCell (p := ⟨w.heap.size + 1 + 1 + 1, 0, none⟩) (by dsimp only; omega) (.bool true)))
  obtain ⟨c1, f1, l1⟩ := kl.rules
  obtain ⟨c2, f2, l2⟩ := kat.rules
  obtain ⟨c3, f3, l3⟩ := kle.rules
  obtain ⟨c4, f4, l4⟩ := k10.rules
  obtain ⟨c5, f5, l5⟩ := kf.rules
  obtain ⟨c6, f6, l6⟩ := ke.rules
  have hgf1 : ¬ w.heap.size = gf := by omega
  have hgf2 : ¬ w.heap.size + 1 = gf := by omega
  go_step3
  go_wp2_with fail
  clear c1 f1 l1 c2 f2 l2 c3 f3 l3 c4 f4 l4 c5 f5 l5 c6 f6 l6
  obtain ⟨c1, f1, l1⟩ := kzz.rules
  rw [Exit.noGoto_ret]
  exact bodyPost_ret (v := .bool true) (by simp [results, Tryz.results115, go_sem, c1]) rfl ⟨rfl, kfz, bz⟩
theorem nb1_any (p : Pl) (gf ge gp gn : Nat) (w : World) (hI : InvC p w) (kf : Blk w gf 156 #[.slice none 0 0]) (ke : Blk w ge 3 #[.int .i64 12]) (kp : Blk w gp 214 #[.pointer (some ⟨p.c, 0, none⟩), .map (some p.m2)]) (kn : Blk w gn 226 #[.func (.func 115) #[] #[.pointer (some ⟨gf, 0, none⟩), .pointer (some ⟨ge, 0, none⟩), .pointer (some ⟨gp, 0, none⟩), .pointer (some ⟨gn, 0, none⟩)]]) (hne : ge ≠ gf) (hpf : gp ≠ gf) (hnf : gn ≠ gf) :
    Calls Tryz.prog 115 #[.slice none 0 0, .agg #[.int .i64 0, .int .i64 0, .int .i64 0, .int .i64 0], .int .i64 1, .pointer (some ⟨gf, 0, none⟩), .pointer (some ⟨ge, 0, none⟩), .pointer (some ⟨gp, 0, none⟩), .pointer (some ⟨gn, 0, none⟩)] w fun e w' => e = .returned (.bool true) ∧ (∃ B n c, Blk w' gf 156 #[.slice B n c]) ∧ Blk w' ge 3 #[.int .i64 12] ∧ BelowH (H2 p gf) w.heap.size w w' := by
  have hlt := hI.lt
  refine (callsIn_wide (n := 9)).1 ?_
  refine callsIn_of_wp_marks Tryz.func115 rfl trivial ?_ rfl
  simp only [Tryz.ntmps115, List.size_toArray, List.length_cons, List.length_nil, Nat.reduceAdd, Nat.reduceSub, Array.replicate_succ, Array.replicate_zero, List.push_toArray, List.append_toArray, List.nil_append, List.cons_append]
  refine wpIn_wide.2 ?_
  obtain ⟨W, hW⟩ : ∃ W, W = (((w.alloc (.cells #[.slice none 0 0] 156)).alloc (.cells #[.int .i64 0, .int .i64 0, .int .i64 0, .int .i64 0] 229)).alloc (.cells #[.int .i64 1] 3)).alloc (.cells #[.bool false] 4) := ⟨_, rfl⟩
  have kl : Blk W w.heap.size 156 #[.slice none 0 0] := by rw [hW]; exact (((Blk.new _ _ _).alloc _).alloc _).alloc _
  have kat : Blk W (w.heap.size + 1) 229 #[.int .i64 0, .int .i64 0, .int .i64 0, .int .i64 0] := by rw [hW]; exact ((Blk.newAt (by simp)).alloc _).alloc _
  have kle : Blk W (w.heap.size + 1 + 1) 3 #[.int .i64 1] := by rw [hW]; exact (Blk.newAt (by simp)).alloc _
  have k10 : Blk W (w.heap.size + 1 + 1 + 1) 4 #[.bool false] := by rw [hW]; exact Blk.newAt (by simp)
  have b : Below w.heap.size w W := by rw [hW]; exact ((((Below.refl _ _).alloc (Nat.le_refl _) _).alloc (by simp) _).alloc (by simp; omega) _).alloc (by simp; omega) _
  have hfl := kf.lt
  have hel := ke.lt
  have hpl := kp.lt
  have hnl := kn.lt
  replace kf := kf.below b
  replace ke := ke.below b
  replace kp := kp.below b
  replace kn := kn.below b
  have hJ := hI.below b
  go_wp2_with fail
  rw [← hW]
  clear hW
  obtain ⟨c3, f3, l3⟩ := kle.rules
  obtain ⟨c5, f5, l5⟩ := kp.rules
  go_step3
  go_wp2_with fail
  go_step3
  go_wp2_with fail
  have h10w := k10.lt
  refine (shoots_any p 1 _).mono ?_
  rintro e X ⟨rfl, hX⟩
  clear c3 f3 l3 c5 f5 l5
  have bs : Below W.heap.size W X := by rw [hX]; exact ((Below.refl _ _).alloc (Nat.le_refl _) _).alloc (by simp) _
  have hSh : ShoL p W.heap.size (W.heap.size + 1) 1 X := ⟨hJ.below bs, by rw [hX]; exact (Blk.new _ _ _).alloc _, by rw [hX]; exact Blk.newAt (by simp)⟩
  clear hX
  replace kl := kl.below bs
  replace kat := kat.below bs
  replace kle := kle.below bs
  replace k10 := k10.below bs
  replace kf := kf.below bs
  replace ke := ke.below bs
  replace kp := kp.below bs
  replace kn := kn.below bs
  have hJX := hSh.inv
  have bX := b.trans (bs.mono b.size)
  have hX0 := bX.size
  have h10l := k10.lt
  have hfX := kf.lt
  have hWX := bs.size
  clear bs b hJ
  go_wp2_with fail
  have hI0 : NbI p w gf ge gp gn X := ⟨belowH_of bX, kl, kat, kle, k10, kf, ke, kp, kn⟩
  have hno := fun A (h : NbI p w gf ge gp gn A) (hA : InvC p A) => h
  have hoff : OffN p w gf ge gp gn := ⟨hJX.off kl, hJX.off kat, hJX.off kle, hJX.off k10, hJX.off kf, hJX.off ke, hJX.off kp, hJX.off kn⟩
  clear hno kl kat kle k10 kf ke kp kn
  refine (wpIn_wide (n := 9)).1 ?_
  refine wp_rangeH rfl (by decide) (gf := 142) (lb := #[.pointer (some ⟨W.heap.size, 0, none⟩), .pointer (some ⟨W.heap.size + 1, 0, none⟩)]) rfl trivial eg_sho (sho1_iter _ p _ _) (fun k vs W e => by rw [e]; rfl)
    (fun k A => k = 0 ∧ NbI p w gf ge gp gn A) (fun c A => c = .ret ∧ NbX p w gf ge A) (fun k A B h hc => ⟨h.1, h.2.calm hoff hX0 hc⟩) (fun _ A B h hc => ⟨h.1, h.2.calm hoff hX0 hc⟩) (fun A B h hc => h.calm hJX hc) hJX.lt ⟨rfl, hI0⟩ hSh ?round ?done ?stop
  case done => exact fun _ _ _ h _ _ => absurd h.1 (by decide)
  case stop =>
    rintro D c W3 hD ⟨rfl, hx⟩ hS3 hDf
    gi_wp2_with fail
    rw [Exit.noGoto_ret]
    obtain ⟨B, n, c, kf⟩ := hx.kf
    have hcp := calm_put (B := w.heap.size) (.deferred none) hDf rfl (by omega)
    obtain ⟨c1, f1, l1⟩ := (calm_blk hcp hx.k10).rules
    exact ⟨by simp, .inl ⟨_, _, rfl, run_takeDeferred hDf, .bool true, by simp [results, Tryz.results115, go_sem, c1], rfl, ⟨B, n, c, calm_blk hcp kf⟩, calm_blk hcp hx.ke, hx.b.trans (belowH_of hcp.1)⟩⟩
  case round =>
    rintro l k vs Y0 hY0 hk ⟨rfl, hN⟩ hSo rfl
    have e1 : IntKind.i64.wrap 1 = 1 := by decide
    have e2 : bits BinOp.andNot IntKind.i64 1 1 = 0 := by decide
    gi_wp2_with fail
    refine ⟨(Below.refl _ _).alloc (Nat.le_refl _) _, fun Y1 hc => ?_⟩
    have hc3 : Calm X.heap.size Y0 Y1 := (calm_of_below ((Below.refl _ _).alloc (Nat.le_refl _) _) hY0).trans hc
    have kx : Blk Y1 Y0.heap.size 224 #[.int .i64 0, .int .i64 0] := calm_blk hc (Blk.new _ _ _)
    replace hN := hN.calm hoff hX0 hc3.h
    replace hSo := hSo.calm hJX hc3
    have hY1 : X.heap.size ≤ Y1.heap.size := by have := kx.lt; omega
    clear hc hc3
    obtain ⟨nb, kl, kat, kle, k10, kf, ke, kp, kn⟩ := hN
    obtain ⟨c1, f1, l1⟩ := kp.rules
    obtain ⟨c2, f2, l2⟩ := kat.rules
    obtain ⟨c3, f3, l3⟩ := kx.rules
    gi_wp2_with fail
    clear c1 f1 l1 c2 f2 l2 c3 f3 l3
    refine ⟨trivial, ?_⟩
    refine (CallsIn.inRound l (callsIn_wide.2 (goesA_any p _ hSo.inv))).mono ?_
    rintro e Y2 ⟨rfl, hI2, hb⟩
    replace kl := hb.blk kl kl.lt (hSo.inv.off kl)
    replace kat := hb.blk kat kat.lt (hSo.inv.off kat)
    replace kle := hb.blk kle kle.lt (hSo.inv.off kle)
    replace k10 := hb.blk k10 k10.lt (hSo.inv.off k10)
    replace kf := hb.blk kf kf.lt (hSo.inv.off kf)
    replace ke := hb.blk ke ke.lt (hSo.inv.off ke)
    replace kp := hb.blk kp kp.lt (hSo.inv.off kp)
    replace kn := hb.blk kn kn.lt (hSo.inv.off kn)
    replace kx := hb.blk kx kx.lt (hSo.inv.off kx)
    replace nb := nb.trans (hb.mono nb.size)
    have hn2 : NC X.heap.size Y1 Y2 := ncH_of hb hJX.lt
    replace hSo := hSo.next hI2 hb
    replace hY1 := Nat.le_trans hY1 hb.size
    clear hb hI2
    have hfgb : gf < Y2.heap.size := kf.lt
    have hb := (Below.refl Y2.heap.size Y2).alloc (Nat.le_refl _) (.cells #[.int .i64 7, .int .i64 12] 26)
    have kb := Blk.new Y2 26 #[.int .i64 7, .int .i64 12]
    gi_upto_region 7 with fail
    replace kl := kl.below hb
    replace kat := kat.below hb
    replace kle := kle.below hb
    replace k10 := k10.below hb
    replace kf := kf.below hb
    replace ke := ke.below hb
    replace kp := kp.below hb
    replace kn := kn.below hb
    replace kx := kx.below hb
    replace nb := nb.trans ((belowH_of hb).mono nb.size)
    replace hn2 := hn2.trans (nc_of_below hb)
    replace hSo := hSo.below hb
    replace hY1 := Nat.le_trans hY1 hb.size
    clear hb
    generalize Y2.alloc (.cells #[.int .i64 7, .int .i64 12] 26) = Y3 at *
    generalize Y2.heap.size = gb at *
    obtain ⟨c1, f1, l1⟩ := kb.rules
    obtain ⟨c2, f2, l2⟩ := ke.rules
    gi_wp2_with fail
    clear c1 f1 l1 c2 f2 l2
    refine wpIn_held_round (fun w' : World => (∀ j, w'.cell? ⟨gn, j, none⟩ = #[Value.func (.func 115) #[] #[.pointer (some ⟨gf, 0, none⟩), .pointer (some ⟨ge, 0, none⟩), .pointer (some ⟨gp, 0, none⟩), .pointer (some ⟨gn, 0, none⟩)]][j]?) ∧ (∀ j, w'.cell? ⟨w.heap.size, j, none⟩ = #[Value.slice none 0 0][j]?) ∧ (∀ j, w'.cell? ⟨Y0.heap.size, j, none⟩ = #[Value.int .i64 0, .int .i64 0][j]?) ∧ (∀ j, w'.cell? ⟨gp, j, none⟩ = #[Value.pointer (some ⟨p.c, 0, none⟩), .map (some p.m2)][j]?) ∧ (∀ j, w'.cell? ⟨gb, j, none⟩ = #[Value.int .i64 7, .int .i64 12][j]?) ∧ (∀ j, w'.cell? ⟨w.heap.size + 1 + 1, j, none⟩ = #[Value.int .i64 1][j]?)) (by kernel_rfl) (by kernel_rfl) (by rintro ⟨_, _, h⟩; exact h) ?_
    have hSb : Hid (∀ W', Below Y3.heap.size Y3 W' → (fun w' : World => (∀ j, w'.cell? ⟨gn, j, none⟩ = #[Value.func (.func 115) #[] #[.pointer (some ⟨gf, 0, none⟩), .pointer (some ⟨ge, 0, none⟩), .pointer (some ⟨gp, 0, none⟩), .pointer (some ⟨gn, 0, none⟩)]][j]?) ∧ (∀ j, w'.cell? ⟨w.heap.size, j, none⟩ = #[Value.slice none 0 0][j]?) ∧ (∀ j, w'.cell? ⟨Y0.heap.size, j, none⟩ = #[Value.int .i64 0, .int .i64 0][j]?) ∧ (∀ j, w'.cell? ⟨gp, j, none⟩ = #[Value.pointer (some ⟨p.c, 0, none⟩), .map (some p.m2)][j]?) ∧ (∀ j, w'.cell? ⟨gb, j, none⟩ = #[Value.int .i64 7, .int .i64 12][j]?) ∧ (∀ j, w'.cell? ⟨w.heap.size + 1 + 1, j, none⟩ = #[Value.int .i64 1][j]?)) W') := by
      show ∀ _, _
      intro W' hbb
      exact ⟨(kn.below hbb).cell, (kl.below hbb).cell, (kx.below hbb).cell, (kp.below hbb).cell, (kb.below hbb).cell, (kle.below hbb).cell⟩
    have hb9 : Below Y3.heap.size Y3 Y3.drew := (Below.refl _ _).drew
    have hS := hSb.out _ hb9
    generalize Y3.drew = wd at *
    refine hTk 0 40 ?_
    refine hTk 1 41 ?_
    refine hTk 3 43 ?_
    refine hTk 6 46 ?_
    refine hTk 7 47 ?_
    refine hTk 8 48 ?_
    refine hTk 9 49 ?_
    refine hTk 11 51 ?_
    refine hTk 12 52 ?_
    refine hTk 13 53 ?_
    refine hTk 14 54 ?_
    refine hTk 15 55 ?_
    clear hS
    have hfY : gf < Y3.heap.size := kf.lt
    refine held_two (i := 2) (j := 4) (by kernel_rfl) rfl rfl rfl rfl (fun K hK => ?_) (fun K hK => ?_)
    · skip
      go_simp
      refine (CloneSh_nil _).mono ?_
      rintro e w' ⟨rfl, rfl⟩
      refine hK _ _ (hSb.out _ hb9) ?_
      clear hK K
      try simp only [Act.put, sA, sZ, sS]
      obtain ⟨X1, hwz⟩ : ∃ x, x = wd := ⟨_, rfl⟩
      subst hwz
      refine hOne 4 fun K hK => ?_
      go_simp
      have ks := Blk.new X1 224 #[Value.int .i64 0, .int .i64 0]
      have hbel : Below X1.heap.size X1 (X1.alloc (.cells #[Value.int .i64 0, .int .i64 0] 224)) := (Below.refl _ _).alloc (Nat.le_refl _) _
      generalize X1.alloc (.cells #[Value.int .i64 0, .int .i64 0] 224) = X2 at *
      generalize X1.heap.size = gs at ks ⊢
      replace hb9 := hb9.trans (hbel.mono hb9.size)
      refine hK _ _ (hSb.out _ hb9) ?_
      clear hK K hbel
      try simp only [Act.put, sA, sZ, sS]
      refine hOne 5 fun K hK => ?_
      obtain ⟨i0, hi0, hz0, hz1, hz2⟩ := info_parts Tryz.infoShoot
      refine wp_append_lies _ _ _ 156 (by rfl) Y3.heap.size 224 i0 (.agg #[.int .i64 0, .int .i64 0]) 2 16 Tryz.underlying156 hi0 hz0 hz1 hz2 rfl (by omega) (.slice none 0 0) 0 [] (by rfl) (World.ownsRow_nil _ _ _ _) ⟨gs, 0, none⟩ 1 1 [.int .i64 0, .int .i64 0] (by rfl) rfl (World.news_of_block (cs := #[Value.int .i64 0, .int .i64 0]) ks) (by simp [Value.oneCell']) (by omega) (by decide) (by decide) hb9.size X2.heap.size rfl ?_
      intro g2 c2 X3 hown2 hgrow hlies hlt2
      have hbel : Below Y3.heap.size X2 X3 := ⟨hgrow.os, hgrow.tape, hgrow.output, hgrow.size, fun b hb2 => hgrow.block b (Nat.lt_of_lt_of_le hb2 hb9.size) (fun e => by cases e)⟩
      replace hb9 := hb9.trans hbel
      refine hK _ _ (hSb.out _ hb9) ?_
      clear hK K hbel hgrow hlies hown2
      try simp only [Act.put, sA, sZ, sS]
      refine hOne 10 fun K hK => ?_
      go_simp
      refine (after_any p _ (hSo.inv.below hb9)).mono ?_
      rintro e Z1 ⟨rfl, hbel⟩
      replace hb9 := hb9.trans (hbel.mono hb9.size)
      refine hK _ _ (hSb.out _ hb9) ?_
      clear hK K hbel
      try simp only [Act.put, sA, sZ, sS]
      refine hOne 16 fun K hK => ?_
      go_simp
      refine (nb0_any _ _ _ gf ge gp gn _ _ (kf.below hb9) (ke.below hb9) hne).mono ?_
      rintro e Z2 ⟨rfl, kf2, hbf⟩
      have k10z := hbf.blk (k10.below hb9) (k10.below hb9).lt (by omega)
      have kez := hbf.blk (ke.below hb9) (ke.below hb9).lt (by omega)
      have hS9 : (fun w' : World => (∀ j, w'.cell? ⟨gn, j, none⟩ = #[Value.func (.func 115) #[] #[.pointer (some ⟨gf, 0, none⟩), .pointer (some ⟨ge, 0, none⟩), .pointer (some ⟨gp, 0, none⟩), .pointer (some ⟨gn, 0, none⟩)]][j]?) ∧ (∀ j, w'.cell? ⟨w.heap.size, j, none⟩ = #[Value.slice none 0 0][j]?) ∧ (∀ j, w'.cell? ⟨Y0.heap.size, j, none⟩ = #[Value.int .i64 0, .int .i64 0][j]?) ∧ (∀ j, w'.cell? ⟨gp, j, none⟩ = #[Value.pointer (some ⟨p.c, 0, none⟩), .map (some p.m2)][j]?) ∧ (∀ j, w'.cell? ⟨gb, j, none⟩ = #[Value.int .i64 7, .int .i64 12][j]?) ∧ (∀ j, w'.cell? ⟨w.heap.size + 1 + 1, j, none⟩ = #[Value.int .i64 1][j]?)) Z2 := ⟨(hbf.blk (kn.below hb9) (kn.below hb9).lt hnf).cell, (hbf.blk (kl.below hb9) (kl.below hb9).lt (by omega)).cell, (hbf.blk (kx.below hb9) (kx.below hb9).lt (by omega)).cell, (hbf.blk (kp.below hb9) (kp.below hb9).lt hpf).cell, (hbf.blk (kb.below hb9) (kb.below hb9).lt (by omega)).cell, (hbf.blk (kle.below hb9) (kle.below hb9).lt (by omega)).cell⟩
      refine hK _ _ hS9 ?_
      clear hK K hS9
      try simp only [Act.put, sA, sZ, sS]
      refine wpAnyH_done (by kernel_rfl) ?_ _
      have nbz : BelowH (H2 p gf) w.heap.size w Z2 := ((nb.trans ((belowH_of hb9).mono nb.size)).weak fun _ => .inl).trans ((hbf.mono (Nat.le_trans nb.size hb9.size)).weak fun _ => .inr)
      have hnz : NC X.heap.size Y1 Z2 := (hn2.trans (nc_of_below hb9)).trans (ncH_of hbf (fun k e => by omega))
      have hSz := (hSo.below hb9).nextG (kf.below hb9) hbf
      obtain ⟨c1, f1, l1⟩ := k10z.rules
      gi_wp2_with fail
      have k10y := k10z.set_ 0 (.bool true)
      simp only [sA, sZ] at k10y
      exact ⟨hnz.trans (nc_setCell _ _ _ (by dsimp only; omega)), ⟨rfl, nbz.trans (belowH_of ((Below.refl w.heap.size Z2).setCell (by dsimp only; omega) _)), ⟨_, _, _, kf2.far (by dsimp only; omega) _⟩, kez.far (by dsimp only; omega) _, k10y⟩, hSz.set_ hI (by omega) (by omega) (by omega) _⟩
    · skip
      go_simp
      have ks := Blk.new wd 224 #[Value.int .i64 0, .int .i64 0]
      have hbel : Below wd.heap.size wd (wd.alloc (.cells #[Value.int .i64 0, .int .i64 0] 224)) := (Below.refl _ _).alloc (Nat.le_refl _) _
      generalize wd.alloc (.cells #[Value.int .i64 0, .int .i64 0] 224) = X4 at *
      generalize wd.heap.size = gs at ks ⊢
      replace hb9 := hb9.trans (hbel.mono hb9.size)
      refine hK _ _ (hSb.out _ hb9) ?_
      clear hK K hbel
      try simp only [Act.put, sA, sZ, sS]
      refine hOne 2 fun K hK => ?_
      go_simp
      refine (CloneSh_nil _).mono ?_
      rintro e w' ⟨rfl, rfl⟩
      refine hK _ _ (hSb.out _ hb9) ?_
      clear hK K
      try simp only [Act.put, sA, sZ, sS]
      obtain ⟨X5, hwz⟩ : ∃ x, x = X4 := ⟨_, rfl⟩
      subst hwz
      refine hOne 5 fun K hK => ?_
      obtain ⟨i0, hi0, hz0, hz1, hz2⟩ := info_parts Tryz.infoShoot
      refine wp_append_lies _ _ _ 156 (by rfl) Y3.heap.size 224 i0 (.agg #[.int .i64 0, .int .i64 0]) 2 16 Tryz.underlying156 hi0 hz0 hz1 hz2 rfl (by omega) (.slice none 0 0) 0 [] (by rfl) (World.ownsRow_nil _ _ _ _) ⟨gs, 0, none⟩ 1 1 [.int .i64 0, .int .i64 0] (by rfl) rfl (World.news_of_block (cs := #[Value.int .i64 0, .int .i64 0]) ks) (by simp [Value.oneCell']) (by omega) (by decide) (by decide) hb9.size X5.heap.size rfl ?_
      intro g2 c2 X6 hown2 hgrow hlies hlt2
      have hbel : Below Y3.heap.size X5 X6 := ⟨hgrow.os, hgrow.tape, hgrow.output, hgrow.size, fun b hb2 => hgrow.block b (Nat.lt_of_lt_of_le hb2 hb9.size) (fun e => by cases e)⟩
      replace hb9 := hb9.trans hbel
      refine hK _ _ (hSb.out _ hb9) ?_
      clear hK K hbel hgrow hlies hown2
      try simp only [Act.put, sA, sZ, sS]
      refine hOne 10 fun K hK => ?_
      go_simp
      refine (after_any p _ (hSo.inv.below hb9)).mono ?_
      rintro e Z1 ⟨rfl, hbel⟩
      replace hb9 := hb9.trans (hbel.mono hb9.size)
      refine hK _ _ (hSb.out _ hb9) ?_
      clear hK K hbel
      try simp only [Act.put, sA, sZ, sS]
      refine hOne 16 fun K hK => ?_
      go_simp
      refine (nb0_any _ _ _ gf ge gp gn _ _ (kf.below hb9) (ke.below hb9) hne).mono ?_
      rintro e Z2 ⟨rfl, kf2, hbf⟩
      have k10z := hbf.blk (k10.below hb9) (k10.below hb9).lt (by omega)
      have kez := hbf.blk (ke.below hb9) (ke.below hb9).lt (by omega)
      have hS9 : (fun w' : World => (∀ j, w'.cell? ⟨gn, j, none⟩ = #[Value.func (.func 115) #[] #[.pointer (some ⟨gf, 0, none⟩), .pointer (some ⟨ge, 0, none⟩), .pointer (some ⟨gp, 0, none⟩), .pointer (some ⟨gn, 0, none⟩)]][j]?) ∧ (∀ j, w'.cell? ⟨w.heap.size, j, none⟩ = #[Value.slice none 0 0][j]?) ∧ (∀ j, w'.cell? ⟨Y0.heap.size, j, none⟩ = #[Value.int .i64 0, .int .i64 0][j]?) ∧ (∀ j, w'.cell? ⟨gp, j, none⟩ = #[Value.pointer (some ⟨p.c, 0, none⟩), .map (some p.m2)][j]?) ∧ (∀ j, w'.cell? ⟨gb, j, none⟩ = #[Value.int .i64 7, .int .i64 12][j]?) ∧ (∀ j, w'.cell? ⟨w.heap.size + 1 + 1, j, none⟩ = #[Value.int .i64 1][j]?)) Z2 := ⟨(hbf.blk (kn.below hb9) (kn.below hb9).lt hnf).cell, (hbf.blk (kl.below hb9) (kl.below hb9).lt (by omega)).cell, (hbf.blk (kx.below hb9) (kx.below hb9).lt (by omega)).cell, (hbf.blk (kp.below hb9) (kp.below hb9).lt hpf).cell, (hbf.blk (kb.below hb9) (kb.below hb9).lt (by omega)).cell, (hbf.blk (kle.below hb9) (kle.below hb9).lt (by omega)).cell⟩
      refine hK _ _ hS9 ?_
      clear hK K hS9
      try simp only [Act.put, sA, sZ, sS]
      refine wpAnyH_done (by kernel_rfl) ?_ _
      have nbz : BelowH (H2 p gf) w.heap.size w Z2 := ((nb.trans ((belowH_of hb9).mono nb.size)).weak fun _ => .inl).trans ((hbf.mono (Nat.le_trans nb.size hb9.size)).weak fun _ => .inr)
      have hnz : NC X.heap.size Y1 Z2 := (hn2.trans (nc_of_below hb9)).trans (ncH_of hbf (fun k e => by omega))
      have hSz := (hSo.below hb9).nextG (kf.below hb9) hbf
      obtain ⟨c1, f1, l1⟩ := k10z.rules
      gi_wp2_with fail
      have k10y := k10z.set_ 0 (.bool true)
      simp only [sA, sZ] at k10y
      exact ⟨hnz.trans (nc_setCell _ _ _ (by dsimp only; omega)), ⟨rfl, nbz.trans (belowH_of ((Below.refl w.heap.size Z2).setCell (by dsimp only; omega) _)), ⟨_, _, _, kf2.far (by dsimp only; omega) _⟩, kez.far (by dsimp only; omega) _, k10y⟩, hSz.set_ hI (by omega) (by omega) (by omega) _⟩
end Go.Proofs.YtcmbmmpihiekhaaGreat
