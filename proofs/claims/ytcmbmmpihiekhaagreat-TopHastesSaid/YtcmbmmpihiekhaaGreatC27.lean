/-
  The package fix, walks: narrow at the example.
-/
import Derived.Test.YtcmbmmpihiekhaaGreatC26
set_option maxRecDepth 100000
set_option maxHeartbeats 16000000
set_option linter.unusedSimpArgs false
set_option linter.unusedVariables false
namespace Go.Proofs.YtcmbmmpihiekhaaGreat
open Go.RowKit Go.Shelf
attribute [local go_sem] Oper.semAt_some

theorem BelowH.weakB {H K : Nat → Prop} {B : Nat} {a b : World} (h : BelowH H B a b) (hk : ∀ k, k < B → H k → K k) : BelowH K B a b := ⟨h.os, h.tape, h.output, h.size, fun i hi hn => h.block i hi (fun x => hn (hk i hi x))⟩
theorem BelowH.below {H : Nat → Prop} {B : Nat} {a b c : World} (h : BelowH H B a b) (hb : Below b.heap.size b c) (hB : B ≤ b.heap.size) : BelowH H B a c := h.trans (belowH_of (hb.mono hB))
theorem row_neR {w : World} {g g' : Nat} {t t' : TypeId} {l m : List Value} (h : RowB w g t l) (h' : RowB w g' t' m) (ht : t ≠ t') : g ≠ g' := let ⟨tl, h'⟩ := h'; row_ne h h' ht
theorem narrow_any (gn c go co gg gt : Nat) (w : World) (hn : RowB w gn 68 [Value.int .i64 0, Value.int .i64 0, Value.int .i64 0, Value.int .i64 0, Value.int .i64 0, Value.int .i64 0, Value.int .i64 0, Value.int .i64 0, Value.int .i64 0, Value.int .i64 9, Value.int .i64 0, Value.int .i64 9, Value.int .i64 0, Value.int .i64 18, Value.int .i64 (-9), Value.int .i64 9]) (hO : RowB w go 108 [.iface 242 (.agg #[.int .i64 0, .int .i64 1, .int .i64 0, .int .i64 2])]) (kg : Blk w gg 33 #[.slice none 0 0]) (kt : Blk w gt 33 #[.slice none 0 0]) (hgt : gg ≠ gt) : Calls Tryz.prog 79 #[.agg #[.slice (some ⟨gn, 0, none⟩) 2 c, .slice (some ⟨go, 0, none⟩) 1 co], .func (.func 80) #[] #[.pointer (some ⟨gg, 0, none⟩)], .func (.func 82) #[] #[.pointer (some ⟨gt, 0, none⟩)]] w fun e w' => e = .returned (.tuple #[]) ∧ RowB w' gn 68 [Value.int .i64 0, Value.int .i64 0, Value.int .i64 0, Value.int .i64 0, Value.int .i64 0, Value.int .i64 0, Value.int .i64 0, Value.int .i64 0, Value.int .i64 0, Value.int .i64 1, Value.int .i64 0, Value.int .i64 1, Value.int .i64 0, Value.int .i64 2, Value.int .i64 (-1), Value.int .i64 1] ∧ (∃ g k, Blk w' gt 33 #[.slice (some ⟨g, 0, none⟩) 1 k]) ∧ BelowH (fun k => k = gn ∨ k = gt) w.heap.size w w' := by
  have hmf := @hmfT Tryz.prog
  have d1 := row_ne hn kg (by decide)
  have d2 := row_ne hn kt (by decide)
  have d3 := row_neR hn hO (by decide)
  have d4 := row_ne hO kg (by decide)
  have d5 := row_ne hO kt (by decide)
  have ln := hn.lt
  have lO := hO.lt
  have lg := kg.lt
  have lt := kt.lt
  obtain ⟨W, hW⟩ : ∃ q0, q0 = ((w.alloc (.cells #[.slice (some ⟨gn, 0, none⟩) 2 c, .slice (some ⟨go, 0, none⟩) 1 co] 102)).alloc (.cells #[.bool true] 4)) := ⟨_, rfl⟩
  have k3 : Blk W w.heap.size 102 #[.slice (some ⟨gn, 0, none⟩) 2 c, .slice (some ⟨go, 0, none⟩) 1 co] := by rw [hW]; exact (Blk.new _ _ _).alloc _
  have k6 : Blk W (w.heap.size + 1) 4 #[.bool true] := by rw [hW]; exact Blk.newAt (by simp)
  have b0 : Below w.heap.size w W := by rw [hW]; exact ((Below.refl _ _).alloc (Nat.le_refl _) _).alloc (by simp) _
  replace hn := hn.belowB b0 ln
  replace hO := hO.belowB b0 lO
  replace kg := kg.belowB b0 lg
  replace kt := kt.belowB b0 lt
  have b : BelowH (fun k => k = gn ∨ k = gt) w.heap.size w W := belowH_of b0
  clear b0
  have l3 : w.heap.size < w.heap.size + 1 := by omega
  go_enter Tryz.func79, Tryz.ntmps79
  go_wp2_with fail
  rw [← hW]
  clear hW
  have s3 := k3.lt
  have s6 := k6.lt
  have q3 : w.heap.size ≤ w.heap.size := Nat.le_refl _
  have q6 : w.heap.size + 1 = w.heap.size + 1 := rfl
  generalize hg3 : w.heap.size = g3 at k3 k6 s3 s6
  generalize hg6 : g3 + 1 = g6 at k6 s6
  clear q3 q6
  refine wp_loop_rounds 3 ?_
  rw [rounds_succ]
  obtain ⟨a6, f6, z6⟩ := k6.rules
  obtain ⟨a3, f3, z3⟩ := k3.rules
  go_upto_region 4 with fail
  clear a6 f6 z6 a3 f3 z3
  replace k6 := k6.set_ 0 (.bool false)
  simp only [sA, sZ] at k6
  replace k3 := k3.far (p := ⟨g6, 0, none⟩) (by dsimp only; omega) (.bool false)
  replace kg := kg.far (p := ⟨g6, 0, none⟩) (by dsimp only; omega) (.bool false)
  replace kt := kt.far (p := ⟨g6, 0, none⟩) (by dsimp only; omega) (.bool false)
  replace hn := hn.far (p := ⟨g6, 0, none⟩) (by dsimp only; omega) (.bool false)
  replace hO := hO.far (p := ⟨g6, 0, none⟩) (by dsimp only; omega) (.bool false)
  replace b := b.setNew (p := ⟨g6, 0, none⟩) (by dsimp only; omega) (.bool false)
  generalize W.setCell ⟨g6, 0, none⟩ (.bool false) = V1 at *
  obtain ⟨a3, f3, z3⟩ := k3.rules
  go_wp2_with fail
  refine wp_loop_rounds 2 ?_
  rw [rounds_succ]
  obtain ⟨tO, hO⟩ := hO
  simp only [List.cons_append, List.nil_append] at hO
  obtain ⟨aO, fO, zO⟩ := hO.rules
  have k8 := Blk.new V1 108 #[.iface 242 (.agg #[.int .i64 0, .int .i64 1, .int .i64 0, .int .i64 2])]
  have hb := (Below.refl V1.heap.size V1).alloc (Nat.le_refl _) (.cells #[.iface 242 (.agg #[.int .i64 0, .int .i64 1, .int .i64 0, .int .i64 2])] 108)
  go_upto_region 7 with fail
  have i8 := b.size
  have i6 := k6.lt
  clear aO fO zO a3 f3 z3
  replace k3 := k3.below hb
  replace k6 := k6.below hb
  replace kg := kg.below hb
  replace kt := kt.below hb
  replace hn := hn.below hb
  replace hO := hO.below hb
  replace b := b.below hb b.size
  clear hb
  generalize V1.alloc (.cells #[.iface 242 (.agg #[.int .i64 0, .int .i64 1, .int .i64 0, .int .i64 2])] 108) = V2 at *
  generalize V1.heap.size = g8 at *
  go_wp2_with fail
  refine (used_any gg _ kg).mono ?_
  rintro e w' ⟨rfl, rfl⟩
  obtain ⟨a3, f3, z3⟩ := k3.rules
  go_wp2_with fail
  clear a3 f3 z3
  have j6 := k6.lt
  have jb := b.size
  refine (CloneR_any [Value.int .i64 0, Value.int .i64 0, Value.int .i64 0, Value.int .i64 0, Value.int .i64 0, Value.int .i64 0, Value.int .i64 0, Value.int .i64 0, Value.int .i64 0, Value.int .i64 9, Value.int .i64 0, Value.int .i64 9, Value.int .i64 0, Value.int .i64 18, Value.int .i64 (-9), Value.int .i64 9] gn c _ hn rfl (by simp [Value.oneCell'])).mono ?_
  rintro e V3 ⟨g9, pc, rfl, hr9, hg9, hb⟩
  replace k3 := k3.below hb
  replace k6 := k6.below hb
  replace k8 := k8.below hb
  replace kg := kg.below hb
  replace kt := kt.below hb
  replace hn := hn.below hb
  replace hO := hO.below hb
  replace b := b.below hb b.size
  clear hb
  go_wp2_with fail
  refine (failedA_any gn c co g3 g8 g6 (some ⟨go, 0, none⟩) false _ hn k3 k8 k6).mono ?_
  rintro e V4 ⟨rfl, hn9, k69, hb⟩
  have i9 := hr9.lt
  replace k3 := hb.blk k3 k3.lt (by rintro (h | h) <;> omega)
  replace kg := hb.blk kg kg.lt (by rintro (h | h) <;> omega)
  replace kt := hb.blk kt kt.lt (by rintro (h | h) <;> omega)
  replace hO := hb.blk hO hO.lt (by rintro (h | h) <;> omega)
  replace hr9 := RowB.keep hb hr9 i9 (by rintro (h | h) <;> omega)
  replace b := b.trans ((hb.mono b.size).weakB (K := fun k => k = gn ∨ k = gt) (fun k hk h => by rcases h with h | h; exact .inl h; omega))
  clear hb hn k6 k8
  have hn := hn9
  have k6 := k69
  clear hn9 k69
  obtain ⟨a3, f3, z3⟩ := k3.rules
  go_wp2_with fail
  clear a3 f3 z3
  refine (EqualRA_any g9 gn pc c _ hr9 hn).mono ?_
  rintro e V5 ⟨rfl, hb⟩
  replace k3 := k3.below hb
  replace k6 := k6.below hb
  replace kg := kg.below hb
  replace kt := kt.below hb
  replace hn := hn.below hb
  replace hO := hO.below hb
  replace b := b.below hb b.size
  clear hb
  go_wp2_with fail
  refine (note_any gt _ kt).mono ?_
  rintro e V6 ⟨rfl, ⟨gq, cq, kt9⟩, hb⟩
  have i9 := hn.lt
  have i6 := k6.lt
  replace k3 := hb.blk k3 k3.lt (by omega)
  replace k6 := hb.blk k6 k6.lt (by omega)
  replace kg := hb.blk kg kg.lt (by omega)
  replace hO := hb.blk hO hO.lt (by omega)
  replace hn := RowB.keep hb hn i9 (by omega)
  replace b := b.trans ((hb.mono b.size).weakB (K := fun k => k = gn ∨ k = gt) (fun k hk h => .inr h))
  clear hb kt
  have kt := kt9
  clear kt9
  go_wp2_with fail
  rw [rounds_succ]
  obtain ⟨a6, f6, z6⟩ := k6.rules
  go_wp2_with fail
  clear a6 f6 z6
  have i6 := b.size
  have i3 := k3.lt
  have hb := (Below.refl V6.heap.size V6).alloc (Nat.le_refl _) (.cells #[.bool true] 4)
  have k69 := Blk.new V6 4 #[.bool true]
  replace k3 := k3.below hb
  replace kg := kg.below hb
  replace kt := kt.below hb
  replace hn := hn.below hb
  replace hO := hO.below hb
  replace b := b.below hb b.size
  clear hb
  clear k6
  try clear s6
  have k6 := k69
  clear k69
  generalize V6.alloc (.cells #[.bool true] 4) = V7 at *
  clear hg6
  generalize hg6 : V6.heap.size = g6 at *
  replace hO : RowB V7 go 108 [.iface 242 (.agg #[.int .i64 0, .int .i64 1, .int .i64 0, .int .i64 2])] := ⟨tO, hO⟩
  rw [rounds_succ]
  obtain ⟨a6, f6, z6⟩ := k6.rules
  obtain ⟨a3, f3, z3⟩ := k3.rules
  go_upto_region 4 with fail
  clear a6 f6 z6 a3 f3 z3
  replace k6 := k6.set_ 0 (.bool false)
  simp only [sA, sZ] at k6
  replace k3 := k3.far (p := ⟨g6, 0, none⟩) (by dsimp only; omega) (.bool false)
  replace kg := kg.far (p := ⟨g6, 0, none⟩) (by dsimp only; omega) (.bool false)
  replace kt := kt.far (p := ⟨g6, 0, none⟩) (by dsimp only; omega) (.bool false)
  replace hn := hn.far (p := ⟨g6, 0, none⟩) (by dsimp only; omega) (.bool false)
  replace hO := hO.far (p := ⟨g6, 0, none⟩) (by dsimp only; omega) (.bool false)
  replace b := b.setNew (p := ⟨g6, 0, none⟩) (by dsimp only; omega) (.bool false)
  generalize V7.setCell ⟨g6, 0, none⟩ (.bool false) = V8 at *
  obtain ⟨a3, f3, z3⟩ := k3.rules
  go_wp2_with fail
  refine wp_loop_rounds 2 ?_
  rw [rounds_succ]
  obtain ⟨tO, hO⟩ := hO
  simp only [List.cons_append, List.nil_append] at hO
  obtain ⟨aO, fO, zO⟩ := hO.rules
  have k8 := Blk.new V8 108 #[.iface 242 (.agg #[.int .i64 0, .int .i64 1, .int .i64 0, .int .i64 2])]
  have hb := (Below.refl V8.heap.size V8).alloc (Nat.le_refl _) (.cells #[.iface 242 (.agg #[.int .i64 0, .int .i64 1, .int .i64 0, .int .i64 2])] 108)
  go_upto_region 7 with fail
  have i8 := b.size
  have i6 := k6.lt
  clear aO fO zO a3 f3 z3
  replace k3 := k3.below hb
  replace k6 := k6.below hb
  replace kg := kg.below hb
  replace kt := kt.below hb
  replace hn := hn.below hb
  replace hO := hO.below hb
  replace b := b.below hb b.size
  clear hb
  generalize V8.alloc (.cells #[.iface 242 (.agg #[.int .i64 0, .int .i64 1, .int .i64 0, .int .i64 2])] 108) = V9 at *
  generalize V8.heap.size = g8 at *
  go_wp2_with fail
  refine (used_any gg _ kg).mono ?_
  rintro e w' ⟨rfl, rfl⟩
  obtain ⟨a3, f3, z3⟩ := k3.rules
  go_wp2_with fail
  clear a3 f3 z3
  have j6 := k6.lt
  have jb := b.size
  refine (CloneR_any [Value.int .i64 0, Value.int .i64 0, Value.int .i64 0, Value.int .i64 0, Value.int .i64 0, Value.int .i64 0, Value.int .i64 0, Value.int .i64 0, Value.int .i64 0, Value.int .i64 1, Value.int .i64 0, Value.int .i64 1, Value.int .i64 0, Value.int .i64 2, Value.int .i64 (-1), Value.int .i64 1] gn c _ hn rfl (by simp [Value.oneCell'])).mono ?_
  rintro e V10 ⟨g9, pc, rfl, hr9, hg9, hb⟩
  replace k3 := k3.below hb
  replace k6 := k6.below hb
  replace k8 := k8.below hb
  replace kg := kg.below hb
  replace kt := kt.below hb
  replace hn := hn.below hb
  replace hO := hO.below hb
  replace b := b.below hb b.size
  clear hb
  go_wp2_with fail
  refine (failedB_any gn c co g3 g8 g6 (some ⟨go, 0, none⟩) false _ hn k3 k8 k6).mono ?_
  rintro e V11 ⟨rfl, hn9, k69, hb⟩
  have i9 := hr9.lt
  replace k3 := hb.blk k3 k3.lt (by rintro (h | h) <;> omega)
  replace kg := hb.blk kg kg.lt (by rintro (h | h) <;> omega)
  replace kt := hb.blk kt kt.lt (by rintro (h | h) <;> omega)
  replace hO := hb.blk hO hO.lt (by rintro (h | h) <;> omega)
  replace hr9 := RowB.keep hb hr9 i9 (by rintro (h | h) <;> omega)
  replace b := b.trans ((hb.mono b.size).weakB (K := fun k => k = gn ∨ k = gt) (fun k hk h => by rcases h with h | h; exact .inl h; omega))
  clear hb hn k6 k8
  have hn := hn9
  have k6 := k69
  clear hn9 k69
  obtain ⟨a3, f3, z3⟩ := k3.rules
  go_wp2_with fail
  clear a3 f3 z3
  refine (EqualRB_any g9 gn pc c _ hr9 hn).mono ?_
  rintro e V12 ⟨rfl, hb⟩
  replace k3 := k3.below hb
  replace k6 := k6.below hb
  replace kg := kg.below hb
  replace kt := kt.below hb
  replace hn := hn.below hb
  replace hO := hO.below hb
  replace b := b.below hb b.size
  clear hb
  go_wp2_with fail
  rw [rounds_succ]
  obtain ⟨a6, f6, z6⟩ := k6.rules
  go_wp2_with fail
  clear a6 f6 z6
  have i6 := b.size
  have i3 := k3.lt
  have hb := (Below.refl V12.heap.size V12).alloc (Nat.le_refl _) (.cells #[.bool false] 4)
  have k69 := Blk.new V12 4 #[.bool false]
  replace k3 := k3.below hb
  replace kg := kg.below hb
  replace kt := kt.below hb
  replace hn := hn.below hb
  replace hO := hO.below hb
  replace b := b.below hb b.size
  clear hb
  clear k6
  try clear s6
  have k6 := k69
  clear k69
  generalize V12.alloc (.cells #[.bool false] 4) = V13 at *
  clear hg6
  generalize hg6 : V12.heap.size = g6 at *
  replace hO : RowB V13 go 108 [.iface 242 (.agg #[.int .i64 0, .int .i64 1, .int .i64 0, .int .i64 2])] := ⟨tO, hO⟩
  rw [rounds_succ]
  obtain ⟨a6, f6, z6⟩ := k6.rules
  go_wp2
  go_end0
  exact ⟨rfl, hn, ⟨gq, cq, kt⟩, b⟩
end Go.Proofs.YtcmbmmpihiekhaaGreat
