/-
  The package fix, walks: the small functions, at the example.
-/
import Derived.Test.YtcmbmmpihiekhaaGreatC6
import Derived.Handy
import Derived.Recover
set_option maxRecDepth 100000
set_option maxHeartbeats 16000000
set_option linter.unusedSimpArgs false
set_option linter.unusedVariables false
namespace Go.Proofs.YtcmbmmpihiekhaaGreat
open Go.RowKit Go.Shelf
attribute [local go_sem] Oper.semAt_some

theorem fwithin_any (n lo hi : Int) (w : World) :
    Calls Tryz.prog 66 #[.int .i64 n, .int .i64 lo, .int .i64 hi] w fun e w' => e = .returned (.bool (decide (lo ≤ n ∧ n ≤ hi))) ∧ w = w' := by
  by_cases h : lo ≤ n
  · go_enter Tryz.func66, Tryz.ntmps66
    go_wp2
    go_ret
    simp [h]
  · go_enter Tryz.func66, Tryz.ntmps66
    go_wp2
    go_ret
    simp; omega
def sp0 : Reg := ⟨⟨-1, 1⟩, ⟨-1, 1⟩, ⟨-2, 2⟩, ⟨-2, 2⟩⟩
def rg2 : Reg := ⟨⟨0, 1⟩, ⟨0, 1⟩, ⟨0, 2⟩, ⟨-1, 1⟩⟩
def smB (b : Bnd) : Prop := -100 ≤ b.lo ∧ b.lo ≤ 100 ∧ -100 ≤ b.hi ∧ b.hi ≤ 100
def smR (r : Reg) : Prop := smB r.x ∧ smB r.y ∧ smB r.s ∧ smB r.d
def ngB (b : Bnd) : Bnd := ⟨-b.hi, -b.lo⟩
def ngR (r : Reg) : Reg := ⟨ngB r.x, ngB r.y, ngB r.s, ngB r.d⟩
theorem wide0_any (w : World) : Calls Tryz.prog 68 #[.agg #[.int .i64 0, .int .i64 0]] w fun e w' => e = .returned (.bool false) ∧ Below w.heap.size w w' := by
  obtain ⟨W, hW⟩ : ∃ q0, q0 = (w.alloc (.cells #[.int .i64 0, .int .i64 0] 26)) := ⟨_, rfl⟩
  have k1 : Blk W (w.heap.size) 26 #[.int .i64 0, .int .i64 0] := by rw [hW]; exact (Blk.new _ _ _)
  have b : Below w.heap.size w W := by rw [hW]; exact ((Below.refl _ _).alloc (Nat.le_refl _) _)
  go_enter Tryz.func68, Tryz.ntmps68
  go_upto_region 1 with fail
  rw [← hW]
  clear hW
  obtain ⟨c1, f1, l1⟩ := k1.rules
  go_wp2
  go_ret
  exact ⟨rfl, b⟩
theorem wide9_any (w : World) : Calls Tryz.prog 68 #[.agg #[.int .i64 0, .int .i64 9]] w fun e w' => e = .returned (.bool false) ∧ Below w.heap.size w w' := by
  obtain ⟨W, hW⟩ : ∃ q0, q0 = (w.alloc (.cells #[.int .i64 0, .int .i64 9] 26)) := ⟨_, rfl⟩
  have k1 : Blk W (w.heap.size) 26 #[.int .i64 0, .int .i64 9] := by rw [hW]; exact (Blk.new _ _ _)
  have b : Below w.heap.size w W := by rw [hW]; exact ((Below.refl _ _).alloc (Nat.le_refl _) _)
  go_enter Tryz.func68, Tryz.ntmps68
  go_upto_region 1 with fail
  rw [← hW]
  clear hW
  obtain ⟨c1, f1, l1⟩ := k1.rules
  go_wp2
  go_ret
  exact ⟨rfl, b⟩
theorem shift32768_any (x y : Bnd) (w : World) (hx : smB x) (hy : smB y) : Calls Tryz.prog 168 #[.agg #[.int .i64 x.lo, .int .i64 x.hi], .agg #[.int .i64 y.lo, .int .i64 y.hi], .int .i64 32768] w fun e w' => e = .returned (.agg #[.int .i64 (x.lo + y.lo), .int .i64 (x.hi + y.hi)]) ∧ Below w.heap.size w w' := by
  unfold smB at hx hy
  obtain ⟨W, hW⟩ : ∃ q0, q0 = (((w.alloc (.cells #[.int .i64 x.lo, .int .i64 x.hi] 26)).alloc (.cells #[.int .i64 y.lo, .int .i64 y.hi] 26)).alloc (.cells #[.int .i64 0, .int .i64 0] 26)) := ⟨_, rfl⟩
  have k3 : Blk W (w.heap.size) 26 #[.int .i64 x.lo, .int .i64 x.hi] := by rw [hW]; exact (((Blk.new _ _ _).alloc _).alloc _)
  have k4 : Blk W (w.heap.size + 1) 26 #[.int .i64 y.lo, .int .i64 y.hi] := by rw [hW]; exact ((Blk.newAt (by simp)).alloc _)
  have k6 : Blk W (w.heap.size + 1 + 1) 26 #[.int .i64 0, .int .i64 0] := by rw [hW]; exact (Blk.newAt (by simp))
  have b : Below w.heap.size w W := by rw [hW]; exact ((((Below.refl _ _).alloc (Nat.le_refl _) _).alloc (by simp) _).alloc (by simp; omega) _)
  go_enter Tryz.func168, Tryz.ntmps168
  go_upto_region 1 with fail
  rw [← hW]
  clear hW
  have e1 : wrap64 (x.lo + y.lo) = x.lo + y.lo := by unfold wrap64; omega
  have e2 : wrap64 (x.hi + y.hi) = x.hi + y.hi := by unfold wrap64; omega
  have h1 : ¬ x.lo + y.lo < -32768 := by omega
  have h2 : ¬ 32768 < x.hi + y.hi := by omega
  have h3 : -32768 < x.lo + y.lo := by omega
  have h4 : x.hi + y.hi < 32768 := by omega
  obtain ⟨c3, f3, l3⟩ := k3.rules
  obtain ⟨c4, f4, l4⟩ := k4.rules
  obtain ⟨c6, f6, l6⟩ := k6.rules
  go_wp2
  have kz := ((k6.set_ 0 (.int .i64 (x.lo + y.lo))).set_ 1 (.int .i64 (x.hi + y.hi)))
  simp only [sA, sZ, sS] at kz
  have bz := ((b.setCell (p := ⟨w.heap.size + 1 + 1, 0, none⟩) (by dsimp only; omega) (.int .i64 (x.lo + y.lo))).setCell (p := ⟨w.heap.size + 1 + 1, 1, none⟩) (by dsimp only; omega) (.int .i64 (x.hi + y.hi)))
  obtain ⟨r1, r1f, r1l⟩ := kz.rules
  exact bodyPost_ret (v := .agg #[.int .i64 (x.lo + y.lo), .int .i64 (x.hi + y.hi)]) (by simp [results, Tryz.results168, go_sem, r1]) rfl ⟨rfl, bz⟩
theorem shift65536_any (x y : Bnd) (w : World) (hx : smB x) (hy : smB y) : Calls Tryz.prog 168 #[.agg #[.int .i64 x.lo, .int .i64 x.hi], .agg #[.int .i64 y.lo, .int .i64 y.hi], .int .i64 65536] w fun e w' => e = .returned (.agg #[.int .i64 (x.lo + y.lo), .int .i64 (x.hi + y.hi)]) ∧ Below w.heap.size w w' := by
  unfold smB at hx hy
  obtain ⟨W, hW⟩ : ∃ q0, q0 = (((w.alloc (.cells #[.int .i64 x.lo, .int .i64 x.hi] 26)).alloc (.cells #[.int .i64 y.lo, .int .i64 y.hi] 26)).alloc (.cells #[.int .i64 0, .int .i64 0] 26)) := ⟨_, rfl⟩
  have k3 : Blk W (w.heap.size) 26 #[.int .i64 x.lo, .int .i64 x.hi] := by rw [hW]; exact (((Blk.new _ _ _).alloc _).alloc _)
  have k4 : Blk W (w.heap.size + 1) 26 #[.int .i64 y.lo, .int .i64 y.hi] := by rw [hW]; exact ((Blk.newAt (by simp)).alloc _)
  have k6 : Blk W (w.heap.size + 1 + 1) 26 #[.int .i64 0, .int .i64 0] := by rw [hW]; exact (Blk.newAt (by simp))
  have b : Below w.heap.size w W := by rw [hW]; exact ((((Below.refl _ _).alloc (Nat.le_refl _) _).alloc (by simp) _).alloc (by simp; omega) _)
  go_enter Tryz.func168, Tryz.ntmps168
  go_upto_region 1 with fail
  rw [← hW]
  clear hW
  have e1 : wrap64 (x.lo + y.lo) = x.lo + y.lo := by unfold wrap64; omega
  have e2 : wrap64 (x.hi + y.hi) = x.hi + y.hi := by unfold wrap64; omega
  have h1 : ¬ x.lo + y.lo < -65536 := by omega
  have h2 : ¬ 65536 < x.hi + y.hi := by omega
  have h3 : -65536 < x.lo + y.lo := by omega
  have h4 : x.hi + y.hi < 65536 := by omega
  obtain ⟨c3, f3, l3⟩ := k3.rules
  obtain ⟨c4, f4, l4⟩ := k4.rules
  obtain ⟨c6, f6, l6⟩ := k6.rules
  go_wp2
  have kz := ((k6.set_ 0 (.int .i64 (x.lo + y.lo))).set_ 1 (.int .i64 (x.hi + y.hi)))
  simp only [sA, sZ, sS] at kz
  have bz := ((b.setCell (p := ⟨w.heap.size + 1 + 1, 0, none⟩) (by dsimp only; omega) (.int .i64 (x.lo + y.lo))).setCell (p := ⟨w.heap.size + 1 + 1, 1, none⟩) (by dsimp only; omega) (.int .i64 (x.hi + y.hi)))
  obtain ⟨r1, r1f, r1l⟩ := kz.rules
  exact bodyPost_ret (v := .agg #[.int .i64 (x.lo + y.lo), .int .i64 (x.hi + y.hi)]) (by simp [results, Tryz.results168, go_sem, r1]) rfl ⟨rfl, bz⟩
theorem turn_any (x : Bnd) (w : World) (hx : smB x) : Calls Tryz.prog 169 #[.agg #[.int .i64 x.lo, .int .i64 x.hi]] w fun e w' => e = .returned (.agg #[.int .i64 (ngB x).lo, .int .i64 (ngB x).hi]) ∧ Below w.heap.size w w' := by
  unfold smB at hx
  unfold ngB
  dsimp only
  obtain ⟨W, hW⟩ : ∃ q0, q0 = ((w.alloc (.cells #[.int .i64 x.lo, .int .i64 x.hi] 26)).alloc (.cells #[.int .i64 0, .int .i64 0] 26)) := ⟨_, rfl⟩
  have k1 : Blk W (w.heap.size) 26 #[.int .i64 x.lo, .int .i64 x.hi] := by rw [hW]; exact ((Blk.new _ _ _).alloc _)
  have k2 : Blk W (w.heap.size + 1) 26 #[.int .i64 0, .int .i64 0] := by rw [hW]; exact (Blk.newAt (by simp))
  have b : Below w.heap.size w W := by rw [hW]; exact (((Below.refl _ _).alloc (Nat.le_refl _) _).alloc (by simp) _)
  go_enter Tryz.func169, Tryz.ntmps169
  go_upto_region 1 with fail
  rw [← hW]
  clear hW
  have e1 : wrap64 (-x.lo) = -x.lo := by unfold wrap64; omega
  have e2 : wrap64 (-x.hi) = -x.hi := by unfold wrap64; omega
  obtain ⟨c1, f1, l1⟩ := k1.rules
  obtain ⟨c2, f2, l2⟩ := k2.rules
  go_wp2
  have kz := ((k2.set_ 0 (.int .i64 (-x.hi))).set_ 1 (.int .i64 (-x.lo)))
  simp only [sA, sZ, sS] at kz
  have bz := ((b.setCell (p := ⟨w.heap.size + 1, 0, none⟩) (by dsimp only; omega) (.int .i64 (-x.hi))).setCell (p := ⟨w.heap.size + 1, 1, none⟩) (by dsimp only; omega) (.int .i64 (-x.lo)))
  obtain ⟨r1, r1f, r1l⟩ := kz.rules
  exact bodyPost_ret (v := .agg #[.int .i64 (-x.hi), .int .i64 (-x.lo)]) (by simp [results, Tryz.results169, go_sem, r1]) rfl ⟨rfl, bz⟩
theorem about2_any (w : World) : Calls Tryz.prog 229 #[.int .i64 2] w fun e w' => e = .returned (.agg #[.int .i64 (-1), .int .i64 1]) ∧ Below w.heap.size w w' := by
  have hr := fun W => Root_any 2 W (by decide) (by decide)
  rw [show rootS 2 = 1 from by unfold rootS; rw [show ((2 : Int)).toNat = 2 from rfl, isq_eq (n := 2) (r := 1) (by decide) (by decide)]; rfl] at hr
  obtain ⟨W, hW⟩ : ∃ q0, q0 = (w.alloc (.cells #[.int .i64 0, .int .i64 0] 26)) := ⟨_, rfl⟩
  have k2 : Blk W (w.heap.size) 26 #[.int .i64 0, .int .i64 0] := by rw [hW]; exact (Blk.new _ _ _)
  have b : Below w.heap.size w W := by rw [hW]; exact ((Below.refl _ _).alloc (Nat.le_refl _) _)
  go_enter Tryz.func229, Tryz.ntmps229
  go_upto_region 1 with fail
  rw [← hW]
  clear hW
  go_wp2_with fail
  refine (hr _).mono ?_
  rintro e W1 ⟨rfl, rfl⟩
  obtain ⟨c2, f2, l2⟩ := k2.rules
  go_wp2
  have kz := ((k2.set_ 0 (.int .i64 (-1))).set_ 1 (.int .i64 1))
  simp only [sA, sZ, sS] at kz
  have bz := ((b.setCell (p := ⟨w.heap.size, 0, none⟩) (by dsimp only; omega) (.int .i64 (-1))).setCell (p := ⟨w.heap.size, 1, none⟩) (by dsimp only; omega) (.int .i64 1))
  obtain ⟨r1, r1f, r1l⟩ := kz.rules
  exact bodyPost_ret (v := .agg #[.int .i64 (-1), .int .i64 1]) (by simp [results, Tryz.results229, go_sem, r1]) rfl ⟨rfl, bz⟩
theorem about4_any (w : World) : Calls Tryz.prog 229 #[.int .i64 4] w fun e w' => e = .returned (.agg #[.int .i64 (-2), .int .i64 2]) ∧ Below w.heap.size w w' := by
  have hr := fun W => Root_any 4 W (by decide) (by decide)
  rw [show rootS 4 = 2 from by unfold rootS; rw [show ((4 : Int)).toNat = 4 from rfl, isq_eq (n := 4) (r := 2) (by decide) (by decide)]; rfl] at hr
  obtain ⟨W, hW⟩ : ∃ q0, q0 = (w.alloc (.cells #[.int .i64 0, .int .i64 0] 26)) := ⟨_, rfl⟩
  have k2 : Blk W (w.heap.size) 26 #[.int .i64 0, .int .i64 0] := by rw [hW]; exact (Blk.new _ _ _)
  have b : Below w.heap.size w W := by rw [hW]; exact ((Below.refl _ _).alloc (Nat.le_refl _) _)
  go_enter Tryz.func229, Tryz.ntmps229
  go_upto_region 1 with fail
  rw [← hW]
  clear hW
  go_wp2_with fail
  refine (hr _).mono ?_
  rintro e W1 ⟨rfl, rfl⟩
  obtain ⟨c2, f2, l2⟩ := k2.rules
  go_wp2
  have kz := ((k2.set_ 0 (.int .i64 (-2))).set_ 1 (.int .i64 2))
  simp only [sA, sZ, sS] at kz
  have bz := ((b.setCell (p := ⟨w.heap.size, 0, none⟩) (by dsimp only; omega) (.int .i64 (-2))).setCell (p := ⟨w.heap.size, 1, none⟩) (by dsimp only; omega) (.int .i64 2))
  obtain ⟨r1, r1f, r1l⟩ := kz.rules
  exact bodyPost_ret (v := .agg #[.int .i64 (-2), .int .i64 2]) (by simp [results, Tryz.results229, go_sem, r1]) rfl ⟨rfl, bz⟩
theorem lnodes_any (w : World) : Calls Tryz.prog 226 #[.agg #[.int .i64 0, .int .i64 1]] w fun e w' => e = .returned (.tuple #[.int .i64 0, .int .i64 1]) ∧ Below w.heap.size w w' := by
  obtain ⟨W, hW⟩ : ∃ q0, q0 = (w.alloc (.cells #[.int .i64 0, .int .i64 1] 240)) := ⟨_, rfl⟩
  have k1 : Blk W (w.heap.size) 240 #[.int .i64 0, .int .i64 1] := by rw [hW]; exact (Blk.new _ _ _)
  have b : Below w.heap.size w W := by rw [hW]; exact ((Below.refl _ _).alloc (Nat.le_refl _) _)
  go_enter Tryz.func226, Tryz.ntmps226
  go_upto_region 1 with fail
  rw [← hW]
  clear hW
  obtain ⟨c1, f1, l1⟩ := k1.rules
  go_quiet (fail)
  go_wp2
  go_ret2
  exact ⟨rfl, below_drewN b _⟩
theorem span_any (w : World) : Calls Tryz.prog 228 #[.agg #[.int .i64 0, .int .i64 1, .int .i64 0, .int .i64 2]] w fun e w' => e = .returned (.agg #[.int .i64 (-1), .int .i64 1, .int .i64 (-1), .int .i64 1, .int .i64 (-2), .int .i64 2, .int .i64 (-2), .int .i64 2]) ∧ Below w.heap.size w w' := by
  obtain ⟨W, hW⟩ : ∃ q0, q0 = ((w.alloc (.cells #[.int .i64 0, .int .i64 1, .int .i64 0, .int .i64 2] 242)).alloc (.cells #[.int .i64 0, .int .i64 0, .int .i64 0, .int .i64 0, .int .i64 0, .int .i64 0, .int .i64 0, .int .i64 0] 68)) := ⟨_, rfl⟩
  have k1 : Blk W (w.heap.size) 242 #[.int .i64 0, .int .i64 1, .int .i64 0, .int .i64 2] := by rw [hW]; exact ((Blk.new _ _ _).alloc _)
  have k2 : Blk W (w.heap.size + 1) 68 #[.int .i64 0, .int .i64 0, .int .i64 0, .int .i64 0, .int .i64 0, .int .i64 0, .int .i64 0, .int .i64 0] := by rw [hW]; exact (Blk.newAt (by simp))
  have b : Below w.heap.size w W := by rw [hW]; exact (((Below.refl _ _).alloc (Nat.le_refl _) _).alloc (by simp) _)
  go_enter Tryz.func228, Tryz.ntmps228
  go_upto_region 1 with fail
  rw [← hW]
  clear hW
  have hk2 := k2.lt
  have e2 : IntKind.i64.wrap (2 * 2) = 4 := by decide
  refine hOpn (fun w' : World => (∀ j, w'.cell? ⟨w.heap.size, j, none⟩ = #[Value.int .i64 0, .int .i64 1, .int .i64 0, .int .i64 2][j]?)) (fun W' hbb => (k1.below hbb).cell) fun hSb hb9 hS hg9 => ?_
  generalize W.drew = wd at *
  refine hTk 0 3 ?_
  refine hTk 1 4 ?_
  refine hTk 2 5 ?_
  refine hTk 4 7 ?_
  refine hTk 5 8 ?_
  refine hTk 6 9 ?_
  refine hTk 8 11 ?_
  refine hTk 9 12 ?_
  refine hTk 10 13 ?_
  refine hTk 11 14 ?_
  refine hTk 13 16 ?_
  refine hTk 14 17 ?_
  refine hTk 15 18 ?_
  refine hTk 16 19 ?_
  refine hOne 3 fun K hK => ?_
  go_simp
  refine (about2_any _).mono ?_
  rintro e X1 ⟨rfl, hbel⟩
  replace hb9 := hb9.trans (hbel.mono hb9.size)
  clear hbel
  refine hK _ _ (hSb.out _ hb9) ?_
  clear hK K
  try simp only [Act.put, sA, sZ, sS]
  clear hS
  have hS := hSb.out _ hb9
  refine hOne 7 fun K hK => ?_
  go_simp
  refine (about2_any _).mono ?_
  rintro e X2 ⟨rfl, hbel⟩
  replace hb9 := hb9.trans (hbel.mono hb9.size)
  clear hbel
  refine hK _ _ (hSb.out _ hb9) ?_
  clear hK K
  try simp only [Act.put, sA, sZ, sS]
  clear hS
  have hS := hSb.out _ hb9
  refine hOne 12 fun K hK => ?_
  go_simp
  refine (about4_any _).mono ?_
  rintro e X3 ⟨rfl, hbel⟩
  replace hb9 := hb9.trans (hbel.mono hb9.size)
  clear hbel
  refine hK _ _ (hSb.out _ hb9) ?_
  clear hK K
  try simp only [Act.put, sA, sZ, sS]
  clear hS
  have hS := hSb.out _ hb9
  refine hOne 17 fun K hK => ?_
  go_simp
  refine (about4_any _).mono ?_
  rintro e X4 ⟨rfl, hbel⟩
  replace hb9 := hb9.trans (hbel.mono hb9.size)
  clear hbel
  refine hK _ _ (hSb.out _ hb9) ?_
  clear hK K
  try simp only [Act.put, sA, sZ, sS]
  clear hS
  have hS := hSb.out _ hb9
  refine hTk 18 21 ?_
  replace k2 := k2.below hb9
  replace k1 := k1.below hb9
  replace b := b.trans (hb9.mono b.size)
  have kz := ((((((((k2.set_ 0 (.int .i64 (-1))).set_ 1 (.int .i64 1)).set_ 2 (.int .i64 (-1))).set_ 3 (.int .i64 1)).set_ 4 (.int .i64 (-2))).set_ 5 (.int .i64 2)).set_ 6 (.int .i64 (-2))).set_ 7 (.int .i64 2))
  simp only [sA, sZ, sS] at kz
  have bz := ((((((((b.setCell (p := ⟨w.heap.size + 1, 0, none⟩) (by dsimp only; omega) (.int .i64 (-1))).setCell (p := ⟨w.heap.size + 1, 1, none⟩) (by dsimp only; omega) (.int .i64 1)).setCell (p := ⟨w.heap.size + 1, 2, none⟩) (by dsimp only; omega) (.int .i64 (-1))).setCell (p := ⟨w.heap.size + 1, 3, none⟩) (by dsimp only; omega) (.int .i64 1)).setCell (p := ⟨w.heap.size + 1, 4, none⟩) (by dsimp only; omega) (.int .i64 (-2))).setCell (p := ⟨w.heap.size + 1, 5, none⟩) (by dsimp only; omega) (.int .i64 2)).setCell (p := ⟨w.heap.size + 1, 6, none⟩) (by dsimp only; omega) (.int .i64 (-2))).setCell (p := ⟨w.heap.size + 1, 7, none⟩) (by dsimp only; omega) (.int .i64 2))
  have k1z := ((((((((k1.far (p := ⟨w.heap.size + 1, 0, none⟩) (by dsimp only; omega) (.int .i64 (-1))).far (p := ⟨w.heap.size + 1, 1, none⟩) (by dsimp only; omega) (.int .i64 1)).far (p := ⟨w.heap.size + 1, 2, none⟩) (by dsimp only; omega) (.int .i64 (-1))).far (p := ⟨w.heap.size + 1, 3, none⟩) (by dsimp only; omega) (.int .i64 1)).far (p := ⟨w.heap.size + 1, 4, none⟩) (by dsimp only; omega) (.int .i64 (-2))).far (p := ⟨w.heap.size + 1, 5, none⟩) (by dsimp only; omega) (.int .i64 2)).far (p := ⟨w.heap.size + 1, 6, none⟩) (by dsimp only; omega) (.int .i64 (-2))).far (p := ⟨w.heap.size + 1, 7, none⟩) (by dsimp only; omega) (.int .i64 2))
  obtain ⟨Xz, hwz⟩ : ∃ q0, q0 = ((((((((X4.setCell ⟨w.heap.size + 1, 0, none⟩ (.int .i64 (-1))).setCell ⟨w.heap.size + 1, 1, none⟩ (.int .i64 1)).setCell ⟨w.heap.size + 1, 2, none⟩ (.int .i64 (-1))).setCell ⟨w.heap.size + 1, 3, none⟩ (.int .i64 1)).setCell ⟨w.heap.size + 1, 4, none⟩ (.int .i64 (-2))).setCell ⟨w.heap.size + 1, 5, none⟩ (.int .i64 2)).setCell ⟨w.heap.size + 1, 6, none⟩ (.int .i64 (-2))).setCell ⟨w.heap.size + 1, 7, none⟩ (.int .i64 2)) := ⟨_, rfl⟩
  rw [← hwz] at kz bz k1z
  obtain ⟨c9, f9, l9⟩ := k2.rules
  refine hOne 19 fun K hK => ?_
  go_simp
  rw [← hwz]
  clear hwz c9 f9 l9 k2 b hS hSb hb9
  have k2 := kz
  have b := bz
  clear kz bz
  replace k1 := k1z
  clear k1z
  have hS : (fun w' : World => (∀ j, w'.cell? ⟨w.heap.size, j, none⟩ = #[Value.int .i64 0, .int .i64 1, .int .i64 0, .int .i64 2][j]?)) Xz := k1.cell
  refine hK _ _ hS ?_
  clear hK K
  try simp only [Act.put, sA, sZ, sS]
  refine wpAnyH_done (by kernel_rfl) (noPanic_normal ?_) _
  clear hS
  try clear hSb
  go_wp2
  obtain ⟨r1, r1f, r1l⟩ := k2.rules
  exact bodyPost_ret (v := .agg #[.int .i64 (-1), .int .i64 1, .int .i64 (-1), .int .i64 1, .int .i64 (-2), .int .i64 2, .int .i64 (-2), .int .i64 2]) (by simp [results, Tryz.results228, go_sem, r1]) rfl ⟨rfl, b⟩
theorem back_any (r : Reg) (w : World) (hr : smR r) : Calls Tryz.prog 152 #[.agg #[.int .i64 r.x.lo, .int .i64 r.x.hi, .int .i64 r.y.lo, .int .i64 r.y.hi, .int .i64 r.s.lo, .int .i64 r.s.hi, .int .i64 r.d.lo, .int .i64 r.d.hi]] w fun e w' => e = .returned (.agg #[.int .i64 (ngB r.x).lo, .int .i64 (ngB r.x).hi, .int .i64 (ngB r.y).lo, .int .i64 (ngB r.y).hi, .int .i64 (ngB r.s).lo, .int .i64 (ngB r.s).hi, .int .i64 (ngB r.d).lo, .int .i64 (ngB r.d).hi]) ∧ Below w.heap.size w w' := by
  have h1 := fun W => turn_any r.x W hr.1
  have h2 := fun W => turn_any r.y W hr.2.1
  have h3 := fun W => turn_any r.s W hr.2.2.1
  have h4 := fun W => turn_any r.d W hr.2.2.2
  replace hr := Lib.hid hr
  obtain ⟨W, hW⟩ : ∃ q0, q0 = ((w.alloc (.cells #[.int .i64 r.x.lo, .int .i64 r.x.hi, .int .i64 r.y.lo, .int .i64 r.y.hi, .int .i64 r.s.lo, .int .i64 r.s.hi, .int .i64 r.d.lo, .int .i64 r.d.hi] 68)).alloc (.cells #[.int .i64 0, .int .i64 0, .int .i64 0, .int .i64 0, .int .i64 0, .int .i64 0, .int .i64 0, .int .i64 0] 68)) := ⟨_, rfl⟩
  have k1 : Blk W (w.heap.size) 68 #[.int .i64 r.x.lo, .int .i64 r.x.hi, .int .i64 r.y.lo, .int .i64 r.y.hi, .int .i64 r.s.lo, .int .i64 r.s.hi, .int .i64 r.d.lo, .int .i64 r.d.hi] := by rw [hW]; exact ((Blk.new _ _ _).alloc _)
  have k2 : Blk W (w.heap.size + 1) 68 #[.int .i64 0, .int .i64 0, .int .i64 0, .int .i64 0, .int .i64 0, .int .i64 0, .int .i64 0, .int .i64 0] := by rw [hW]; exact (Blk.newAt (by simp))
  have b : Below w.heap.size w W := by rw [hW]; exact (((Below.refl _ _).alloc (Nat.le_refl _) _).alloc (by simp) _)
  go_enter Tryz.func152, Tryz.ntmps152
  go_upto_region 2 with fail
  rw [← hW]
  clear hW
  have hk2 := k2.lt
  refine hOpn (fun w' : World => (∀ j, w'.cell? ⟨w.heap.size, j, none⟩ = #[Value.int .i64 r.x.lo, .int .i64 r.x.hi, .int .i64 r.y.lo, .int .i64 r.y.hi, .int .i64 r.s.lo, .int .i64 r.s.hi, .int .i64 r.d.lo, .int .i64 r.d.hi][j]?)) (fun W' hbb => (k1.below hbb).cell) fun hSb hb9 hS hg9 => ?_
  generalize W.drew = wd at *
  refine hTk 0 4 ?_
  refine hTk 1 5 ?_
  refine hTk 2 6 ?_
  refine hTk 4 8 ?_
  refine hTk 5 9 ?_
  refine hTk 6 10 ?_
  refine hTk 8 12 ?_
  refine hTk 9 13 ?_
  refine hTk 10 14 ?_
  refine hTk 12 16 ?_
  refine hTk 13 17 ?_
  refine hTk 14 18 ?_
  refine hOne 3 fun K hK => ?_
  go_simp
  refine (h1 _).mono ?_
  rintro e X1 ⟨rfl, hbel⟩
  replace hb9 := hb9.trans (hbel.mono hb9.size)
  clear hbel
  refine hK _ _ (hSb.out _ hb9) ?_
  clear hK K
  try simp only [Act.put, sA, sZ, sS]
  clear hS
  have hS := hSb.out _ hb9
  refine hOne 7 fun K hK => ?_
  go_simp
  refine (h2 _).mono ?_
  rintro e X2 ⟨rfl, hbel⟩
  replace hb9 := hb9.trans (hbel.mono hb9.size)
  clear hbel
  refine hK _ _ (hSb.out _ hb9) ?_
  clear hK K
  try simp only [Act.put, sA, sZ, sS]
  clear hS
  have hS := hSb.out _ hb9
  refine hOne 11 fun K hK => ?_
  go_simp
  refine (h3 _).mono ?_
  rintro e X3 ⟨rfl, hbel⟩
  replace hb9 := hb9.trans (hbel.mono hb9.size)
  clear hbel
  refine hK _ _ (hSb.out _ hb9) ?_
  clear hK K
  try simp only [Act.put, sA, sZ, sS]
  clear hS
  have hS := hSb.out _ hb9
  refine hOne 15 fun K hK => ?_
  go_simp
  refine (h4 _).mono ?_
  rintro e X4 ⟨rfl, hbel⟩
  replace hb9 := hb9.trans (hbel.mono hb9.size)
  clear hbel
  refine hK _ _ (hSb.out _ hb9) ?_
  clear hK K
  try simp only [Act.put, sA, sZ, sS]
  clear hS
  have hS := hSb.out _ hb9
  refine hTk 16 20 ?_
  replace k2 := k2.below hb9
  replace k1 := k1.below hb9
  replace b := b.trans (hb9.mono b.size)
  have kz := ((((((((k2.set_ 0 (.int .i64 (ngB r.x).lo)).set_ 1 (.int .i64 (ngB r.x).hi)).set_ 2 (.int .i64 (ngB r.y).lo)).set_ 3 (.int .i64 (ngB r.y).hi)).set_ 4 (.int .i64 (ngB r.s).lo)).set_ 5 (.int .i64 (ngB r.s).hi)).set_ 6 (.int .i64 (ngB r.d).lo)).set_ 7 (.int .i64 (ngB r.d).hi))
  simp only [sA, sZ, sS] at kz
  have bz := ((((((((b.setCell (p := ⟨w.heap.size + 1, 0, none⟩) (by dsimp only; omega) (.int .i64 (ngB r.x).lo)).setCell (p := ⟨w.heap.size + 1, 1, none⟩) (by dsimp only; omega) (.int .i64 (ngB r.x).hi)).setCell (p := ⟨w.heap.size + 1, 2, none⟩) (by dsimp only; omega) (.int .i64 (ngB r.y).lo)).setCell (p := ⟨w.heap.size + 1, 3, none⟩) (by dsimp only; omega) (.int .i64 (ngB r.y).hi)).setCell (p := ⟨w.heap.size + 1, 4, none⟩) (by dsimp only; omega) (.int .i64 (ngB r.s).lo)).setCell (p := ⟨w.heap.size + 1, 5, none⟩) (by dsimp only; omega) (.int .i64 (ngB r.s).hi)).setCell (p := ⟨w.heap.size + 1, 6, none⟩) (by dsimp only; omega) (.int .i64 (ngB r.d).lo)).setCell (p := ⟨w.heap.size + 1, 7, none⟩) (by dsimp only; omega) (.int .i64 (ngB r.d).hi))
  have k1z := ((((((((k1.far (p := ⟨w.heap.size + 1, 0, none⟩) (by dsimp only; omega) (.int .i64 (ngB r.x).lo)).far (p := ⟨w.heap.size + 1, 1, none⟩) (by dsimp only; omega) (.int .i64 (ngB r.x).hi)).far (p := ⟨w.heap.size + 1, 2, none⟩) (by dsimp only; omega) (.int .i64 (ngB r.y).lo)).far (p := ⟨w.heap.size + 1, 3, none⟩) (by dsimp only; omega) (.int .i64 (ngB r.y).hi)).far (p := ⟨w.heap.size + 1, 4, none⟩) (by dsimp only; omega) (.int .i64 (ngB r.s).lo)).far (p := ⟨w.heap.size + 1, 5, none⟩) (by dsimp only; omega) (.int .i64 (ngB r.s).hi)).far (p := ⟨w.heap.size + 1, 6, none⟩) (by dsimp only; omega) (.int .i64 (ngB r.d).lo)).far (p := ⟨w.heap.size + 1, 7, none⟩) (by dsimp only; omega) (.int .i64 (ngB r.d).hi))
  obtain ⟨Xz, hwz⟩ : ∃ q0, q0 = ((((((((X4.setCell ⟨w.heap.size + 1, 0, none⟩ (.int .i64 (ngB r.x).lo)).setCell ⟨w.heap.size + 1, 1, none⟩ (.int .i64 (ngB r.x).hi)).setCell ⟨w.heap.size + 1, 2, none⟩ (.int .i64 (ngB r.y).lo)).setCell ⟨w.heap.size + 1, 3, none⟩ (.int .i64 (ngB r.y).hi)).setCell ⟨w.heap.size + 1, 4, none⟩ (.int .i64 (ngB r.s).lo)).setCell ⟨w.heap.size + 1, 5, none⟩ (.int .i64 (ngB r.s).hi)).setCell ⟨w.heap.size + 1, 6, none⟩ (.int .i64 (ngB r.d).lo)).setCell ⟨w.heap.size + 1, 7, none⟩ (.int .i64 (ngB r.d).hi)) := ⟨_, rfl⟩
  rw [← hwz] at kz bz k1z
  obtain ⟨c9, f9, l9⟩ := k2.rules
  refine hOne 17 fun K hK => ?_
  go_simp
  rw [← hwz]
  clear hwz c9 f9 l9 k2 b hS hSb hb9
  have k2 := kz
  have b := bz
  clear kz bz
  replace k1 := k1z
  clear k1z
  have hS : (fun w' : World => (∀ j, w'.cell? ⟨w.heap.size, j, none⟩ = #[Value.int .i64 r.x.lo, .int .i64 r.x.hi, .int .i64 r.y.lo, .int .i64 r.y.hi, .int .i64 r.s.lo, .int .i64 r.s.hi, .int .i64 r.d.lo, .int .i64 r.d.hi][j]?)) Xz := k1.cell
  refine hK _ _ hS ?_
  clear hK K
  try simp only [Act.put, sA, sZ, sS]
  refine wpAnyH_done (by kernel_rfl) (noPanic_normal ?_) _
  clear hS
  try clear hSb
  go_wp2
  obtain ⟨r1, r1f, r1l⟩ := k2.rules
  exact bodyPost_ret (v := .agg #[.int .i64 (ngB r.x).lo, .int .i64 (ngB r.x).hi, .int .i64 (ngB r.y).lo, .int .i64 (ngB r.y).hi, .int .i64 (ngB r.s).lo, .int .i64 (ngB r.s).hi, .int .i64 (ngB r.d).lo, .int .i64 (ngB r.d).hi]) (by simp [results, Tryz.results152, go_sem, r1]) rfl ⟨rfl, b⟩
theorem window_any (r t : Reg) (w : World) (hr : smR r) (ht : smR t) : Calls Tryz.prog 151 #[.agg #[.int .i64 r.x.lo, .int .i64 r.x.hi, .int .i64 r.y.lo, .int .i64 r.y.hi, .int .i64 r.s.lo, .int .i64 r.s.hi, .int .i64 r.d.lo, .int .i64 r.d.hi], .agg #[.int .i64 t.x.lo, .int .i64 t.x.hi, .int .i64 t.y.lo, .int .i64 t.y.hi, .int .i64 t.s.lo, .int .i64 t.s.hi, .int .i64 t.d.lo, .int .i64 t.d.hi]] w fun e w' => e = .returned (.agg #[.int .i64 (r.x.lo + t.x.lo), .int .i64 (r.x.hi + t.x.hi), .int .i64 (r.y.lo + t.y.lo), .int .i64 (r.y.hi + t.y.hi), .int .i64 (r.s.lo + t.s.lo), .int .i64 (r.s.hi + t.s.hi), .int .i64 (r.d.lo + t.d.lo), .int .i64 (r.d.hi + t.d.hi)]) ∧ Below w.heap.size w w' := by
  have h1 := fun W => shift32768_any r.x t.x W hr.1 ht.1
  have h2 := fun W => shift32768_any r.y t.y W hr.2.1 ht.2.1
  have h3 := fun W => shift65536_any r.s t.s W hr.2.2.1 ht.2.2.1
  have h4 := fun W => shift65536_any r.d t.d W hr.2.2.2 ht.2.2.2
  replace hr := Lib.hid hr
  replace ht := Lib.hid ht
  obtain ⟨W, hW⟩ : ∃ q0, q0 = (((w.alloc (.cells #[.int .i64 r.x.lo, .int .i64 r.x.hi, .int .i64 r.y.lo, .int .i64 r.y.hi, .int .i64 r.s.lo, .int .i64 r.s.hi, .int .i64 r.d.lo, .int .i64 r.d.hi] 68)).alloc (.cells #[.int .i64 t.x.lo, .int .i64 t.x.hi, .int .i64 t.y.lo, .int .i64 t.y.hi, .int .i64 t.s.lo, .int .i64 t.s.hi, .int .i64 t.d.lo, .int .i64 t.d.hi] 68)).alloc (.cells #[.int .i64 0, .int .i64 0, .int .i64 0, .int .i64 0, .int .i64 0, .int .i64 0, .int .i64 0, .int .i64 0] 68)) := ⟨_, rfl⟩
  have k2 : Blk W (w.heap.size) 68 #[.int .i64 r.x.lo, .int .i64 r.x.hi, .int .i64 r.y.lo, .int .i64 r.y.hi, .int .i64 r.s.lo, .int .i64 r.s.hi, .int .i64 r.d.lo, .int .i64 r.d.hi] := by rw [hW]; exact (((Blk.new _ _ _).alloc _).alloc _)
  have k3 : Blk W (w.heap.size + 1) 68 #[.int .i64 t.x.lo, .int .i64 t.x.hi, .int .i64 t.y.lo, .int .i64 t.y.hi, .int .i64 t.s.lo, .int .i64 t.s.hi, .int .i64 t.d.lo, .int .i64 t.d.hi] := by rw [hW]; exact ((Blk.newAt (by simp)).alloc _)
  have k4 : Blk W (w.heap.size + 1 + 1) 68 #[.int .i64 0, .int .i64 0, .int .i64 0, .int .i64 0, .int .i64 0, .int .i64 0, .int .i64 0, .int .i64 0] := by rw [hW]; exact (Blk.newAt (by simp))
  have b : Below w.heap.size w W := by rw [hW]; exact ((((Below.refl _ _).alloc (Nat.le_refl _) _).alloc (by simp) _).alloc (by simp; omega) _)
  go_enter Tryz.func151, Tryz.ntmps151
  go_upto_region 1 with fail
  rw [← hW]
  clear hW
  have hk4 := k4.lt
  refine hOpn (fun w' : World => (∀ j, w'.cell? ⟨w.heap.size, j, none⟩ = #[Value.int .i64 r.x.lo, .int .i64 r.x.hi, .int .i64 r.y.lo, .int .i64 r.y.hi, .int .i64 r.s.lo, .int .i64 r.s.hi, .int .i64 r.d.lo, .int .i64 r.d.hi][j]?) ∧ (∀ j, w'.cell? ⟨w.heap.size + 1, j, none⟩ = #[Value.int .i64 t.x.lo, .int .i64 t.x.hi, .int .i64 t.y.lo, .int .i64 t.y.hi, .int .i64 t.s.lo, .int .i64 t.s.hi, .int .i64 t.d.lo, .int .i64 t.d.hi][j]?)) (fun W' hbb => ⟨(k2.below hbb).cell, (k3.below hbb).cell⟩) fun hSb hb9 hS hg9 => ?_
  generalize W.drew = wd at *
  refine hTk 0 5 ?_
  refine hTk 1 6 ?_
  refine hTk 2 7 ?_
  refine hTk 3 8 ?_
  refine hTk 5 10 ?_
  refine hTk 6 11 ?_
  refine hTk 7 12 ?_
  refine hTk 8 13 ?_
  refine hTk 10 15 ?_
  refine hTk 11 16 ?_
  refine hTk 12 17 ?_
  refine hTk 13 18 ?_
  refine hTk 15 20 ?_
  refine hTk 16 21 ?_
  refine hTk 17 22 ?_
  refine hTk 18 23 ?_
  refine hOne 4 fun K hK => ?_
  go_simp
  refine (h1 _).mono ?_
  rintro e X1 ⟨rfl, hbel⟩
  replace hb9 := hb9.trans (hbel.mono hb9.size)
  clear hbel
  refine hK _ _ (hSb.out _ hb9) ?_
  clear hK K
  try simp only [Act.put, sA, sZ, sS]
  clear hS
  have hS := hSb.out _ hb9
  refine hOne 9 fun K hK => ?_
  go_simp
  refine (h2 _).mono ?_
  rintro e X2 ⟨rfl, hbel⟩
  replace hb9 := hb9.trans (hbel.mono hb9.size)
  clear hbel
  refine hK _ _ (hSb.out _ hb9) ?_
  clear hK K
  try simp only [Act.put, sA, sZ, sS]
  clear hS
  have hS := hSb.out _ hb9
  refine hOne 14 fun K hK => ?_
  go_simp
  refine (h3 _).mono ?_
  rintro e X3 ⟨rfl, hbel⟩
  replace hb9 := hb9.trans (hbel.mono hb9.size)
  clear hbel
  refine hK _ _ (hSb.out _ hb9) ?_
  clear hK K
  try simp only [Act.put, sA, sZ, sS]
  clear hS
  have hS := hSb.out _ hb9
  refine hOne 19 fun K hK => ?_
  go_simp
  refine (h4 _).mono ?_
  rintro e X4 ⟨rfl, hbel⟩
  replace hb9 := hb9.trans (hbel.mono hb9.size)
  clear hbel
  refine hK _ _ (hSb.out _ hb9) ?_
  clear hK K
  try simp only [Act.put, sA, sZ, sS]
  clear hS
  have hS := hSb.out _ hb9
  refine hTk 20 25 ?_
  replace k4 := k4.below hb9
  replace k2 := k2.below hb9
  replace k3 := k3.below hb9
  replace b := b.trans (hb9.mono b.size)
  have kz := ((((((((k4.set_ 0 (.int .i64 (r.x.lo + t.x.lo))).set_ 1 (.int .i64 (r.x.hi + t.x.hi))).set_ 2 (.int .i64 (r.y.lo + t.y.lo))).set_ 3 (.int .i64 (r.y.hi + t.y.hi))).set_ 4 (.int .i64 (r.s.lo + t.s.lo))).set_ 5 (.int .i64 (r.s.hi + t.s.hi))).set_ 6 (.int .i64 (r.d.lo + t.d.lo))).set_ 7 (.int .i64 (r.d.hi + t.d.hi)))
  simp only [sA, sZ, sS] at kz
  have bz := ((((((((b.setCell (p := ⟨w.heap.size + 1 + 1, 0, none⟩) (by dsimp only; omega) (.int .i64 (r.x.lo + t.x.lo))).setCell (p := ⟨w.heap.size + 1 + 1, 1, none⟩) (by dsimp only; omega) (.int .i64 (r.x.hi + t.x.hi))).setCell (p := ⟨w.heap.size + 1 + 1, 2, none⟩) (by dsimp only; omega) (.int .i64 (r.y.lo + t.y.lo))).setCell (p := ⟨w.heap.size + 1 + 1, 3, none⟩) (by dsimp only; omega) (.int .i64 (r.y.hi + t.y.hi))).setCell (p := ⟨w.heap.size + 1 + 1, 4, none⟩) (by dsimp only; omega) (.int .i64 (r.s.lo + t.s.lo))).setCell (p := ⟨w.heap.size + 1 + 1, 5, none⟩) (by dsimp only; omega) (.int .i64 (r.s.hi + t.s.hi))).setCell (p := ⟨w.heap.size + 1 + 1, 6, none⟩) (by dsimp only; omega) (.int .i64 (r.d.lo + t.d.lo))).setCell (p := ⟨w.heap.size + 1 + 1, 7, none⟩) (by dsimp only; omega) (.int .i64 (r.d.hi + t.d.hi)))
  have k2z := ((((((((k2.far (p := ⟨w.heap.size + 1 + 1, 0, none⟩) (by dsimp only; omega) (.int .i64 (r.x.lo + t.x.lo))).far (p := ⟨w.heap.size + 1 + 1, 1, none⟩) (by dsimp only; omega) (.int .i64 (r.x.hi + t.x.hi))).far (p := ⟨w.heap.size + 1 + 1, 2, none⟩) (by dsimp only; omega) (.int .i64 (r.y.lo + t.y.lo))).far (p := ⟨w.heap.size + 1 + 1, 3, none⟩) (by dsimp only; omega) (.int .i64 (r.y.hi + t.y.hi))).far (p := ⟨w.heap.size + 1 + 1, 4, none⟩) (by dsimp only; omega) (.int .i64 (r.s.lo + t.s.lo))).far (p := ⟨w.heap.size + 1 + 1, 5, none⟩) (by dsimp only; omega) (.int .i64 (r.s.hi + t.s.hi))).far (p := ⟨w.heap.size + 1 + 1, 6, none⟩) (by dsimp only; omega) (.int .i64 (r.d.lo + t.d.lo))).far (p := ⟨w.heap.size + 1 + 1, 7, none⟩) (by dsimp only; omega) (.int .i64 (r.d.hi + t.d.hi)))
  have k3z := ((((((((k3.far (p := ⟨w.heap.size + 1 + 1, 0, none⟩) (by dsimp only; omega) (.int .i64 (r.x.lo + t.x.lo))).far (p := ⟨w.heap.size + 1 + 1, 1, none⟩) (by dsimp only; omega) (.int .i64 (r.x.hi + t.x.hi))).far (p := ⟨w.heap.size + 1 + 1, 2, none⟩) (by dsimp only; omega) (.int .i64 (r.y.lo + t.y.lo))).far (p := ⟨w.heap.size + 1 + 1, 3, none⟩) (by dsimp only; omega) (.int .i64 (r.y.hi + t.y.hi))).far (p := ⟨w.heap.size + 1 + 1, 4, none⟩) (by dsimp only; omega) (.int .i64 (r.s.lo + t.s.lo))).far (p := ⟨w.heap.size + 1 + 1, 5, none⟩) (by dsimp only; omega) (.int .i64 (r.s.hi + t.s.hi))).far (p := ⟨w.heap.size + 1 + 1, 6, none⟩) (by dsimp only; omega) (.int .i64 (r.d.lo + t.d.lo))).far (p := ⟨w.heap.size + 1 + 1, 7, none⟩) (by dsimp only; omega) (.int .i64 (r.d.hi + t.d.hi)))
  obtain ⟨Xz, hwz⟩ : ∃ q0, q0 = ((((((((X4.setCell ⟨w.heap.size + 1 + 1, 0, none⟩ (.int .i64 (r.x.lo + t.x.lo))).setCell ⟨w.heap.size + 1 + 1, 1, none⟩ (.int .i64 (r.x.hi + t.x.hi))).setCell ⟨w.heap.size + 1 + 1, 2, none⟩ (.int .i64 (r.y.lo + t.y.lo))).setCell ⟨w.heap.size + 1 + 1, 3, none⟩ (.int .i64 (r.y.hi + t.y.hi))).setCell ⟨w.heap.size + 1 + 1, 4, none⟩ (.int .i64 (r.s.lo + t.s.lo))).setCell ⟨w.heap.size + 1 + 1, 5, none⟩ (.int .i64 (r.s.hi + t.s.hi))).setCell ⟨w.heap.size + 1 + 1, 6, none⟩ (.int .i64 (r.d.lo + t.d.lo))).setCell ⟨w.heap.size + 1 + 1, 7, none⟩ (.int .i64 (r.d.hi + t.d.hi))) := ⟨_, rfl⟩
  rw [← hwz] at kz bz k2z k3z
  obtain ⟨c9, f9, l9⟩ := k4.rules
  refine hOne 21 fun K hK => ?_
  go_simp
  rw [← hwz]
  clear hwz c9 f9 l9 k4 b hS hSb hb9
  have k4 := kz
  have b := bz
  clear kz bz
  replace k2 := k2z
  clear k2z
  replace k3 := k3z
  clear k3z
  have hS : (fun w' : World => (∀ j, w'.cell? ⟨w.heap.size, j, none⟩ = #[Value.int .i64 r.x.lo, .int .i64 r.x.hi, .int .i64 r.y.lo, .int .i64 r.y.hi, .int .i64 r.s.lo, .int .i64 r.s.hi, .int .i64 r.d.lo, .int .i64 r.d.hi][j]?) ∧ (∀ j, w'.cell? ⟨w.heap.size + 1, j, none⟩ = #[Value.int .i64 t.x.lo, .int .i64 t.x.hi, .int .i64 t.y.lo, .int .i64 t.y.hi, .int .i64 t.s.lo, .int .i64 t.s.hi, .int .i64 t.d.lo, .int .i64 t.d.hi][j]?)) Xz := ⟨k2.cell, k3.cell⟩
  refine hK _ _ hS ?_
  clear hK K
  try simp only [Act.put, sA, sZ, sS]
  refine wpAnyH_done (by kernel_rfl) (noPanic_normal ?_) _
  clear hS
  try clear hSb
  go_wp2
  obtain ⟨r1, r1f, r1l⟩ := k4.rules
  exact bodyPost_ret (v := .agg #[.int .i64 (r.x.lo + t.x.lo), .int .i64 (r.x.hi + t.x.hi), .int .i64 (r.y.lo + t.y.lo), .int .i64 (r.y.hi + t.y.hi), .int .i64 (r.s.lo + t.s.lo), .int .i64 (r.s.hi + t.s.hi), .int .i64 (r.d.lo + t.d.lo), .int .i64 (r.d.hi + t.d.hi)]) (by simp [results, Tryz.results151, go_sem, r1]) rfl ⟨rfl, b⟩
end Go.Proofs.YtcmbmmpihiekhaaGreat
