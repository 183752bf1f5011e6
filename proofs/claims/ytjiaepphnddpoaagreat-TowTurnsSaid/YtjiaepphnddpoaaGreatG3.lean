/-
  Walks in region: operations bound by bound.
-/
import Derived.Test.YtjiaepphnddpoaaGreatG2
namespace Go.Proofs.YtjiaepphnddpoaaGreat
open Go.RowKit Go.Shelf

def midB (b : Bnd) : Prop := -1000000 ≤ b.lo ∧ b.lo ≤ 1000000 ∧ -1000000 ≤ b.hi ∧ b.hi ≤ 1000000
def midR (r : Reg) : Prop := midB r.x ∧ midB r.y ∧ midB r.s ∧ midB r.d
/-- An operation with two bounds, as it is handed to combined. -/
def OpB (g : Nat) (f : Bnd → Bnd → Bnd) : Prop :=
  ∀ (W : World) (a b : Bnd), midB a → midB b → Calls Tryz.prog g #[.agg #[.int .i64 a.lo, .int .i64 a.hi], .agg #[.int .i64 b.lo, .int .i64 b.hi]] W fun e w' => e = .returned (.agg #[.int .i64 (f a b).lo, .int .i64 (f a b).hi]) ∧ Below W.heap.size W w'
theorem op_spanB : OpB 177 spanB := fun W a b h1 h2 => rspanB_any a b W h1 h2
theorem eg_spanB : Enters Tryz.prog 177 := enters_of Tryz.func177 (by kernel_rfl) rfl
theorem op_plusB : OpB 135 plusB := fun W a b h1 h2 => rplusB_any a b W h1 h2
theorem eg_plusB : Enters Tryz.prog 135 := enters_of Tryz.func135 (by kernel_rfl) rfl
def regA (r : Reg) : Array Value := #[.int .i64 r.x.lo, .int .i64 r.x.hi, .int .i64 r.y.lo, .int .i64 r.y.hi, .int .i64 r.s.lo, .int .i64 r.s.hi, .int .i64 r.d.lo, .int .i64 r.d.hi]
def combK (f : Bnd → Bnd → Bnd) (a b : Reg) : Nat → Reg
  | 0 => a
  | 1 => { a with x := f a.x b.x }
  | 2 => { a with x := f a.x b.x, y := f a.y b.y }
  | 3 => { a with x := f a.x b.x, y := f a.y b.y, s := f a.s b.s }
  | _ => zipR f a b
set_option maxRecDepth 100000 in
set_option maxHeartbeats 2000000 in
theorem combined_any (a b : Reg) (f : Bnd → Bnd → Bnd) (g : Nat) (w : World) (eg : ∀ args w, (callFunc g args).run Tryz.prog w = .ok (.enter g args) w) (ha : midR a) (hb0 : midR b) (hop : OpB g f) :
    Calls Tryz.prog 133 #[.agg (regA a), .agg (regA b), .func (.func g) #[] #[]] w fun e w' =>
      e = .returned (.agg (regA (zipR f a b))) ∧ Below w.heap.size w w' := by
  replace hop := Lib.hid hop
  replace ha := Lib.hid ha
  replace hb0 := Lib.hid hb0
  simp only [regA]
  go_enter Tryz.func133, Tryz.ntmps133
  go_wp2_with fail
  go_loopw [8] (fun j wr => ∃ k : Nat, j = jv k ∧ k ≤ 4 ∧ Blk wr w.heap.size 171 (regA (combK f a b k)) ∧ Blk wr (w.heap.size + 1) 171 (regA b) ∧ Blk wr (w.heap.size + 1 + 1) 171 #[.int .i64 0, .int .i64 0, .int .i64 0, .int .i64 0, .int .i64 0, .int .i64 0, .int .i64 0, .int .i64 0] ∧ Below w.heap.size w wr) (fun j wr => 4 - (intOf j).toNat)
  case atStart =>
    exact ⟨0, rfl, by omega, ((Blk.newAt rfl).alloc _).alloc _, (Blk.newAt (by simp)).alloc _, Blk.newAt (by simp), (((Below.refl w.heap.size w).alloc (Nat.le_refl _) _).alloc (by simp) _).alloc (by simp; omega) _⟩
  case round =>
    obtain ⟨k, rfl, hk, k3, k4, k6, hb⟩ := hrel
    match k, hk with
    | 0, _ =>
      have hcall := fun W => hop.out W a.x b.x ha.out.1 hb0.out.1
      simp only [combK, regA] at k3
      simp only [regA] at k4
      rw [show jv 0 = .int .i64 0 from rfl]
      obtain ⟨c3, f3, l3⟩ := k3.rules
      obtain ⟨c4, f4, l4⟩ := k4.rules
      go_wp2_with fail
      go_region_with (first | (go_at_fn g; refine (hcall _).mono ?_; rintro e w' ⟨rfl, hbx⟩; replace hbx := below_of_drew hbx; have k3x := k3.below hbx; clear c3 f3 l3 c4 f4 l4; obtain ⟨c3, f3, l3⟩ := k3x.rules))
      all_goals
        clear c3 f3 l3
        have b2 := hb.trans (hbx.mono hb.size)
        have k4x := k4.below hbx
        have k6x := k6.below hbx
        go_wp2_with fail
        go_roundw
        case rel => exact ⟨0 + 1, rfl, by omega, (k3x.set_ 0 _).set_ 1 _, (k4x.far (by dsimp only; omega) _).far (by dsimp only; omega) _, (k6x.far (by dsimp only; omega) _).far (by dsimp only; omega) _, (b2.setCell (p := ⟨w.heap.size, 0, none⟩) (Nat.le_refl _) _).setCell (p := ⟨w.heap.size, 1, none⟩) (Nat.le_refl _) _⟩
        case measure => simp [intOf]
    | 1, _ =>
      have hcall := fun W => hop.out W a.y b.y ha.out.2.1 hb0.out.2.1
      simp only [combK, regA] at k3
      simp only [regA] at k4
      rw [show jv 1 = .int .i64 1 from rfl]
      obtain ⟨c3, f3, l3⟩ := k3.rules
      obtain ⟨c4, f4, l4⟩ := k4.rules
      go_wp2_with fail
      go_region_with (first | (go_at_fn g; refine (hcall _).mono ?_; rintro e w' ⟨rfl, hbx⟩; replace hbx := below_of_drew hbx; have k3x := k3.below hbx; clear c3 f3 l3 c4 f4 l4; obtain ⟨c3, f3, l3⟩ := k3x.rules))
      all_goals
        clear c3 f3 l3
        have b2 := hb.trans (hbx.mono hb.size)
        have k4x := k4.below hbx
        have k6x := k6.below hbx
        go_wp2_with fail
        go_roundw
        case rel => exact ⟨1 + 1, rfl, by omega, (k3x.set_ 2 _).set_ 3 _, (k4x.far (by dsimp only; omega) _).far (by dsimp only; omega) _, (k6x.far (by dsimp only; omega) _).far (by dsimp only; omega) _, (b2.setCell (p := ⟨w.heap.size, 2, none⟩) (Nat.le_refl _) _).setCell (p := ⟨w.heap.size, 3, none⟩) (Nat.le_refl _) _⟩
        case measure => simp [intOf]
    | 2, _ =>
      have hcall := fun W => hop.out W a.s b.s ha.out.2.2.1 hb0.out.2.2.1
      simp only [combK, regA] at k3
      simp only [regA] at k4
      rw [show jv 2 = .int .i64 2 from rfl]
      obtain ⟨c3, f3, l3⟩ := k3.rules
      obtain ⟨c4, f4, l4⟩ := k4.rules
      go_wp2_with fail
      go_region_with (first | (go_at_fn g; refine (hcall _).mono ?_; rintro e w' ⟨rfl, hbx⟩; replace hbx := below_of_drew hbx; have k3x := k3.below hbx; clear c3 f3 l3 c4 f4 l4; obtain ⟨c3, f3, l3⟩ := k3x.rules))
      all_goals
        clear c3 f3 l3
        have b2 := hb.trans (hbx.mono hb.size)
        have k4x := k4.below hbx
        have k6x := k6.below hbx
        go_wp2_with fail
        go_roundw
        case rel => exact ⟨2 + 1, rfl, by omega, (k3x.set_ 4 _).set_ 5 _, (k4x.far (by dsimp only; omega) _).far (by dsimp only; omega) _, (k6x.far (by dsimp only; omega) _).far (by dsimp only; omega) _, (b2.setCell (p := ⟨w.heap.size, 4, none⟩) (Nat.le_refl _) _).setCell (p := ⟨w.heap.size, 5, none⟩) (Nat.le_refl _) _⟩
        case measure => simp [intOf]
    | 3, _ =>
      have hcall := fun W => hop.out W a.d b.d ha.out.2.2.2 hb0.out.2.2.2
      simp only [combK, regA] at k3
      simp only [regA] at k4
      rw [show jv 3 = .int .i64 3 from rfl]
      obtain ⟨c3, f3, l3⟩ := k3.rules
      obtain ⟨c4, f4, l4⟩ := k4.rules
      go_wp2_with fail
      go_region_with (first | (go_at_fn g; refine (hcall _).mono ?_; rintro e w' ⟨rfl, hbx⟩; replace hbx := below_of_drew hbx; have k3x := k3.below hbx; clear c3 f3 l3 c4 f4 l4; obtain ⟨c3, f3, l3⟩ := k3x.rules))
      all_goals
        clear c3 f3 l3
        have b2 := hb.trans (hbx.mono hb.size)
        have k4x := k4.below hbx
        have k6x := k6.below hbx
        go_wp2_with fail
        go_roundw
        case rel => exact ⟨3 + 1, rfl, by omega, (k3x.set_ 6 _).set_ 7 _, (k4x.far (by dsimp only; omega) _).far (by dsimp only; omega) _, (k6x.far (by dsimp only; omega) _).far (by dsimp only; omega) _, (b2.setCell (p := ⟨w.heap.size, 6, none⟩) (Nat.le_refl _) _).setCell (p := ⟨w.heap.size, 7, none⟩) (Nat.le_refl _) _⟩
        case measure => simp [intOf]
    | 4, _ =>
      simp only [combK, regA] at k3
      rw [show jv 4 = .int .i64 4 from rfl]
      obtain ⟨c3, f3, l3⟩ := k3.rules
      obtain ⟨c6, f6, l6⟩ := k6.rules
      have kz := k6.set8 (.int .i64 (zipR f a b).x.lo) (.int .i64 (zipR f a b).x.hi) (.int .i64 (zipR f a b).y.lo) (.int .i64 (zipR f a b).y.hi) (.int .i64 (zipR f a b).s.lo) (.int .i64 (zipR f a b).s.hi) (.int .i64 (zipR f a b).d.lo) (.int .i64 (zipR f a b).d.hi)
      have bz := below_set8 (g := w.heap.size + 1 + 1) hb (by omega) (.int .i64 (zipR f a b).x.lo) (.int .i64 (zipR f a b).x.hi) (.int .i64 (zipR f a b).y.lo) (.int .i64 (zipR f a b).y.hi) (.int .i64 (zipR f a b).s.lo) (.int .i64 (zipR f a b).s.hi) (.int .i64 (zipR f a b).d.lo) (.int .i64 (zipR f a b).d.hi)
      obtain ⟨wz, hwz⟩ : ∃ x, x = set8 wr (w.heap.size + 1 + 1) (.int .i64 (zipR f a b).x.lo) (.int .i64 (zipR f a b).x.hi) (.int .i64 (zipR f a b).y.lo) (.int .i64 (zipR f a b).y.hi) (.int .i64 (zipR f a b).s.lo) (.int .i64 (zipR f a b).s.hi) (.int .i64 (zipR f a b).d.lo) (.int .i64 (zipR f a b).d.hi) := ⟨_, rfl⟩
      rw [← hwz] at kz bz
      simp only [set8] at hwz
      go_wp2
      rw [← hwz]
      clear hwz c6 f6 l6
      obtain ⟨c6, f6, l6⟩ := kz.rules
      exact bodyPost_ret (v := .agg #[.int .i64 (zipR f a b).x.lo, .int .i64 (zipR f a b).x.hi, .int .i64 (zipR f a b).y.lo, .int .i64 (zipR f a b).y.hi, .int .i64 (zipR f a b).s.lo, .int .i64 (zipR f a b).s.hi, .int .i64 (zipR f a b).d.lo, .int .i64 (zipR f a b).d.hi]) (by simp [results, Tryz.results133, go_sem, c6]) rfl ⟨rfl, bz⟩
end Go.Proofs.YtjiaepphnddpoaaGreat
