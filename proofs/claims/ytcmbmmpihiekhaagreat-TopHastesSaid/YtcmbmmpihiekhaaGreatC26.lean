/-
  The package fix, walks: the closure that steps; failed around it.
-/
import Derived.Test.YtcmbmmpihiekhaaGreatC25
set_option maxRecDepth 100000
set_option maxHeartbeats 16000000
set_option linter.unusedSimpArgs false
set_option linter.unusedVariables false
namespace Go.Proofs.YtcmbmmpihiekhaaGreat
open Go.RowKit Go.Shelf
attribute [local go_sem] Oper.semAt_some

theorem BelowH.setNew {H : Nat → Prop} {B : Nat} {a b : World} (h : BelowH H B a b) {p : Addr} (hp : B ≤ p.block) (v : Value) : BelowH H B a (b.setCell p v) :=
  h.trans (belowH_of ((Below.refl B b).setCell hp v))
theorem RowB.belowB {w w' : World} {g B : Nat} {t : TypeId} {l : List Value} (h : RowB w g t l) (hb : Below B w w') (hg : g < B) : RowB w' g t l := let ⟨tl, h⟩ := h; ⟨tl, h.belowB hb hg⟩
theorem RowB.far {w : World} {g : Nat} {t : TypeId} {l : List Value} (h : RowB w g t l) {p : Addr} (hp : g ≠ p.block) (u : Value) : RowB (w.setCell p u) g t l := let ⟨tl, h⟩ := h; ⟨tl, h.far hp u⟩
theorem row_ne {w : World} {g g' : Nat} {t t' : TypeId} {l : List Value} {cs' : Array Value} (h : RowB w g t l) (h' : Blk w g' t' cs') (ht : t ≠ t') : g ≠ g' := let ⟨tl, h⟩ := h; blk_neF h h' ht
theorem RowB.keep {H : Nat → Prop} {B : Nat} {w w' : World} (hb : BelowH H B w w') {g : Nat} {t : TypeId} {l : List Value} (h : RowB w g t l) (hB : g < B) (hg : ¬ H g) : RowB w' g t l := let ⟨tl, h⟩ := h; ⟨tl, hb.blk h hB hg⟩
theorem caught_idle (p : Addr) (w : World) : CallsD Tryz.prog 125 #[.pointer (some p)] .returning w fun e u' w' => e = .returned (.tuple #[]) ∧ u' = .returning ∧ w' = w := by
  refine callsD_of_wpS Tryz.func125 rfl fun c₀ cs hu => ?_
  apply wpS_seq
  apply wpS_region
  simp [wpOpsS, go_sem, recoverD, hu, Tryz.ntmps125, Exit.thenS]
  apply wpS_seq
  apply wpS_region
  simp [wpOpsS, go_sem, recoverD, hu, Tryz.ntmps125, Exit.thenS]
  refine wpS_cond (t := false) (by simp [Act.eval, Array.replicate]) ?_
  simp only [Bool.false_eq_true, if_false]
  refine wpS_of_wp (wp_skip ?_)
  cases c₀
  simp_all [bodyPostS, results, Tryz.results125]
theorem nar1A_any (gn c co gN gO gC : Nat) (O : Option Addr) (x : Bool) (w : World) (hn : RowB w gn 68 [Value.int .i64 0, Value.int .i64 0, Value.int .i64 0, Value.int .i64 0, Value.int .i64 0, Value.int .i64 0, Value.int .i64 0, Value.int .i64 0, Value.int .i64 0, Value.int .i64 9, Value.int .i64 0, Value.int .i64 9, Value.int .i64 0, Value.int .i64 18, Value.int .i64 (-9), Value.int .i64 9]) (kN : Blk w gN 102 #[.slice (some ⟨gn, 0, none⟩) 2 c, .slice O 1 co]) (kO : Blk w gO 108 #[.iface 242 (.agg #[.int .i64 0, .int .i64 1, .int .i64 0, .int .i64 2])]) (kC : Blk w gC 4 #[.bool x]) : Calls Tryz.prog 126 #[.pointer (some ⟨gN, 0, none⟩), .pointer (some ⟨gO, 0, none⟩), .pointer (some ⟨gC, 0, none⟩)] w fun e w' => e = .returned (.tuple #[]) ∧ RowB w' gn 68 [Value.int .i64 0, Value.int .i64 0, Value.int .i64 0, Value.int .i64 0, Value.int .i64 0, Value.int .i64 0, Value.int .i64 0, Value.int .i64 0, Value.int .i64 0, Value.int .i64 1, Value.int .i64 0, Value.int .i64 1, Value.int .i64 0, Value.int .i64 2, Value.int .i64 (-1), Value.int .i64 1] ∧ Blk w' gC 4 #[.bool true] ∧ BelowH (fun k => k = gn ∨ k = gC) w.heap.size w w' := by
  have hnC := row_ne hn kC (by decide)
  have hCl := kC.lt
  have hst := stepA_any gn c co O w hn
  obtain ⟨c1, f1, l1⟩ := kN.rules
  obtain ⟨c2, f2, l2⟩ := kO.rules
  go_enter Tryz.func126, Tryz.ntmps126
  go_wp2_with fail
  refine hst.mono ?_
  rintro e W ⟨rfl, hr, hb⟩
  clear c1 f1 l1 c2 f2 l2
  replace kC := hb.blk kC hCl (fun e => hnC e.symm)
  obtain ⟨c3, f3, l3⟩ := kC.rules
  go_wp2
  go_end0
  have kz := kC.set_ 0 (.bool true)
  simp only [sA, sZ] at kz
  exact ⟨rfl, hr.far (by dsimp only; exact hnC) _, kz, (hb.weak (fun _ h => .inl h)).setCell (.inr rfl) _⟩
theorem failedA_any (gn c co gN gO gC : Nat) (O : Option Addr) (x : Bool) (w : World) (hn : RowB w gn 68 [Value.int .i64 0, Value.int .i64 0, Value.int .i64 0, Value.int .i64 0, Value.int .i64 0, Value.int .i64 0, Value.int .i64 0, Value.int .i64 0, Value.int .i64 0, Value.int .i64 9, Value.int .i64 0, Value.int .i64 9, Value.int .i64 0, Value.int .i64 18, Value.int .i64 (-9), Value.int .i64 9]) (kN : Blk w gN 102 #[.slice (some ⟨gn, 0, none⟩) 2 c, .slice O 1 co]) (kO : Blk w gO 108 #[.iface 242 (.agg #[.int .i64 0, .int .i64 1, .int .i64 0, .int .i64 2])]) (kC : Blk w gC 4 #[.bool x]) : Calls Tryz.prog 77 #[.func (.func 126) #[] #[.pointer (some ⟨gN, 0, none⟩), .pointer (some ⟨gO, 0, none⟩), .pointer (some ⟨gC, 0, none⟩)]] w fun e w' => e = .returned (.bool false) ∧ RowB w' gn 68 [Value.int .i64 0, Value.int .i64 0, Value.int .i64 0, Value.int .i64 0, Value.int .i64 0, Value.int .i64 0, Value.int .i64 0, Value.int .i64 0, Value.int .i64 0, Value.int .i64 1, Value.int .i64 0, Value.int .i64 1, Value.int .i64 0, Value.int .i64 2, Value.int .i64 (-1), Value.int .i64 1] ∧ Blk w' gC 4 #[.bool true] ∧ BelowH (fun k => k = gn ∨ k = gC) w.heap.size w w' := by
  have hmf := @hmfT Tryz.prog
  have hnl := hn.lt
  have hCl := kC.lt
  have hb0 := (Below.refl w.heap.size w).alloc (Nat.le_refl _) (.cells #[.bool false] 4)
  have kB := Blk.new w 4 #[.bool false]
  have hcl := nar1A_any gn c co gN gO gC O x _ (hn.below hb0) (kN.below hb0) (kO.below hb0) (kC.below hb0)
  have hsz : (w.alloc (.cells #[.bool false] 4)).heap.size = w.heap.size + 1 := by simp
  go_enter_defers Tryz.func77, Tryz.ntmps77
  go_wp2_with fail
  refine hcl.mono ?_
  rintro e W ⟨rfl, hr, kc, hb⟩
  replace kB := hb.blk kB (by rw [hsz]; omega) (by rintro (h | h) <;> omega)
  replace hb : BelowH (fun k => k = gn ∨ k = gC) w.heap.size w W := (belowH_of hb0).trans (hb.mono (by rw [hsz]; omega))
  obtain ⟨c3, f3, l3⟩ := kB.rules
  clear hcl hsz hb0
  go_wp2
  have kz := kB.set_ 0 (.bool false)
  simp only [sA, sZ] at kz
  obtain ⟨r1, r2, r3⟩ := kz.rules
  refine leaves_cons (f := 125) (args := #[.pointer (some ⟨w.heap.size, 0, none⟩)]) (by simp) (by simp [go_sem]) ?_
  refine (caught_idle _ _).mono ?_
  rintro e u' w'' ⟨rfl, rfl, rfl⟩
  simp only [Leaves, settle]
  refine ⟨.bool false, by simp [results, Tryz.results77, go_sem, r1], rfl, hr.far (by dsimp only; omega) _, kc.far (by dsimp only; omega) _, hb.setNew (by dsimp only; omega) _⟩
theorem nar1B_any (gn c co gN gO gC : Nat) (O : Option Addr) (x : Bool) (w : World) (hn : RowB w gn 68 [Value.int .i64 0, Value.int .i64 0, Value.int .i64 0, Value.int .i64 0, Value.int .i64 0, Value.int .i64 0, Value.int .i64 0, Value.int .i64 0, Value.int .i64 0, Value.int .i64 1, Value.int .i64 0, Value.int .i64 1, Value.int .i64 0, Value.int .i64 2, Value.int .i64 (-1), Value.int .i64 1]) (kN : Blk w gN 102 #[.slice (some ⟨gn, 0, none⟩) 2 c, .slice O 1 co]) (kO : Blk w gO 108 #[.iface 242 (.agg #[.int .i64 0, .int .i64 1, .int .i64 0, .int .i64 2])]) (kC : Blk w gC 4 #[.bool x]) : Calls Tryz.prog 126 #[.pointer (some ⟨gN, 0, none⟩), .pointer (some ⟨gO, 0, none⟩), .pointer (some ⟨gC, 0, none⟩)] w fun e w' => e = .returned (.tuple #[]) ∧ RowB w' gn 68 [Value.int .i64 0, Value.int .i64 0, Value.int .i64 0, Value.int .i64 0, Value.int .i64 0, Value.int .i64 0, Value.int .i64 0, Value.int .i64 0, Value.int .i64 0, Value.int .i64 1, Value.int .i64 0, Value.int .i64 1, Value.int .i64 0, Value.int .i64 2, Value.int .i64 (-1), Value.int .i64 1] ∧ Blk w' gC 4 #[.bool x] ∧ BelowH (fun k => k = gn ∨ k = gC) w.heap.size w w' := by
  have hnC := row_ne hn kC (by decide)
  have hCl := kC.lt
  have hst := stepB_any gn c co O w hn
  obtain ⟨c1, f1, l1⟩ := kN.rules
  obtain ⟨c2, f2, l2⟩ := kO.rules
  go_enter Tryz.func126, Tryz.ntmps126
  go_wp2_with fail
  refine hst.mono ?_
  rintro e W ⟨rfl, hr, hb⟩
  clear c1 f1 l1 c2 f2 l2
  replace kC := hb.blk kC hCl (fun e => hnC e.symm)
  obtain ⟨c3, f3, l3⟩ := kC.rules
  go_wp2
  go_end0
  exact ⟨rfl, hr, kC, hb.weak (fun _ h => .inl h)⟩
theorem failedB_any (gn c co gN gO gC : Nat) (O : Option Addr) (x : Bool) (w : World) (hn : RowB w gn 68 [Value.int .i64 0, Value.int .i64 0, Value.int .i64 0, Value.int .i64 0, Value.int .i64 0, Value.int .i64 0, Value.int .i64 0, Value.int .i64 0, Value.int .i64 0, Value.int .i64 1, Value.int .i64 0, Value.int .i64 1, Value.int .i64 0, Value.int .i64 2, Value.int .i64 (-1), Value.int .i64 1]) (kN : Blk w gN 102 #[.slice (some ⟨gn, 0, none⟩) 2 c, .slice O 1 co]) (kO : Blk w gO 108 #[.iface 242 (.agg #[.int .i64 0, .int .i64 1, .int .i64 0, .int .i64 2])]) (kC : Blk w gC 4 #[.bool x]) : Calls Tryz.prog 77 #[.func (.func 126) #[] #[.pointer (some ⟨gN, 0, none⟩), .pointer (some ⟨gO, 0, none⟩), .pointer (some ⟨gC, 0, none⟩)]] w fun e w' => e = .returned (.bool false) ∧ RowB w' gn 68 [Value.int .i64 0, Value.int .i64 0, Value.int .i64 0, Value.int .i64 0, Value.int .i64 0, Value.int .i64 0, Value.int .i64 0, Value.int .i64 0, Value.int .i64 0, Value.int .i64 1, Value.int .i64 0, Value.int .i64 1, Value.int .i64 0, Value.int .i64 2, Value.int .i64 (-1), Value.int .i64 1] ∧ Blk w' gC 4 #[.bool x] ∧ BelowH (fun k => k = gn ∨ k = gC) w.heap.size w w' := by
  have hmf := @hmfT Tryz.prog
  have hnl := hn.lt
  have hCl := kC.lt
  have hb0 := (Below.refl w.heap.size w).alloc (Nat.le_refl _) (.cells #[.bool false] 4)
  have kB := Blk.new w 4 #[.bool false]
  have hcl := nar1B_any gn c co gN gO gC O x _ (hn.below hb0) (kN.below hb0) (kO.below hb0) (kC.below hb0)
  have hsz : (w.alloc (.cells #[.bool false] 4)).heap.size = w.heap.size + 1 := by simp
  go_enter_defers Tryz.func77, Tryz.ntmps77
  go_wp2_with fail
  refine hcl.mono ?_
  rintro e W ⟨rfl, hr, kc, hb⟩
  replace kB := hb.blk kB (by rw [hsz]; omega) (by rintro (h | h) <;> omega)
  replace hb : BelowH (fun k => k = gn ∨ k = gC) w.heap.size w W := (belowH_of hb0).trans (hb.mono (by rw [hsz]; omega))
  obtain ⟨c3, f3, l3⟩ := kB.rules
  clear hcl hsz hb0
  go_wp2
  have kz := kB.set_ 0 (.bool false)
  simp only [sA, sZ] at kz
  obtain ⟨r1, r2, r3⟩ := kz.rules
  refine leaves_cons (f := 125) (args := #[.pointer (some ⟨w.heap.size, 0, none⟩)]) (by simp) (by simp [go_sem]) ?_
  refine (caught_idle _ _).mono ?_
  rintro e u' w'' ⟨rfl, rfl, rfl⟩
  simp only [Leaves, settle]
  refine ⟨.bool false, by simp [results, Tryz.results77, go_sem, r1], rfl, hr.far (by dsimp only; omega) _, kc.far (by dsimp only; omega) _, hb.setNew (by dsimp only; omega) _⟩
end Go.Proofs.YtcmbmmpihiekhaaGreat
