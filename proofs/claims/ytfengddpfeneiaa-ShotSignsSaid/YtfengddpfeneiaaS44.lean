/-
  Shots, walks of the specification: Enclose.
-/
import Derived.Test.YtfengddpfeneiaaS43
namespace Go.Proofs.Ytfengddpfeneiaa
open Go.RowKit Go.Shelf
set_option linter.unusedSimpArgs false
set_option linter.unusedVariables false

theorem encA_len (a : Arr) : (encA a).length = a.sh.length + 48 := by simp [encA]
theorem encA_at (a : Arr) {t : Nat} (h : t < a.sh.length + 48) : (encA a)[t]? = some (encAtS a t) := mapRange_at _ h
set_option maxRecDepth 100000 in
set_option maxHeartbeats 8000000 in
theorem REnclose_any (a : Arr) (S G : Option Addr) (ns cs ng cg : Nat) (w : World) (hS : SlAt w 0 1 ivs S ns cs a.sh) (hG : SlAt w 0 4 Gun.cells G ng cg a.gs) :
    Calls Try.prog 66 #[.agg #[.slice S ns cs, .slice G ng cg]] w (RetSl 2 Bnd.cells (encAR a) w) := by
  have h1 := fun W h1 h2 => RCheckA_any a S G ns cs ng cg W h1 h2
  have hsl := Lib.hid hS.len
  have hgl := Lib.hid hG.len
  obtain ⟨w1, hw1⟩ : ∃ w1, w1 = w.alloc (.cells #[.slice S ns cs, .slice G ng cg] 25) := ⟨_, rfl⟩
  have k3 : Blk w1 w.heap.size 25 #[.slice S ns cs, .slice G ng cg] := by rw [hw1]; exact Blk.new _ _ _
  have b : Below w.heap.size w w1 := by rw [hw1]; exact (Below.refl _ _).alloc (Nat.le_refl _) _
  have hS1 : SlAt w1 0 1 ivs S ns cs a.sh := by rw [hw1]; exact hS.alloc _
  have hG1 : SlAt w1 0 4 Gun.cells G ng cg a.gs := by rw [hw1]; exact hG.alloc _
  clear hS hG
  unfold chkArr at h1
  by_cases ha : okArr a = true
  · rw [if_pos ha] at h1
    have hv : Hid (encAR a = (encA a, 0)) := by show _ = _; unfold encAR; rw [if_pos ha]
    have har := okArr_len ha
    unfold arrLen at har
    rw [hsl.out, hgl.out] at har
    obtain ⟨r1, r2, r3, r4⟩ := har
    have hgv := Lib.hid (fun g i hi t d W ht hd h1 h2 => Rgives_any a ha g i hi S G ns cs ng cg 0 0 t d W ht hd h1 h2)
    have hbd := Lib.hid (fun t k hk => encTo_bd ha t k hk)
    have hgo := Lib.hid (fun (g : Gun) (h : g ∈ a.gs) => okArr_gun ha h)
    have hbb := Lib.hid (fun (g : Gun) (hg : gunOk g) t k => betTo_bd ha (g := g) ⟨hg.1, hg.2.1⟩ t k)
    have hmin := min2_int
    have hmax := max2_int
    obtain ⟨i0, hi0, hz0, hz1, hz2⟩ := info_parts Try.infoBnd
    have u0 := IntWalk.i64_in ((ns : Int) + 48) (by omega)
    have hlen := Lib.hid (encA_len a)
    have hat := Lib.hid (fun t h => encA_at a (t := t) h)
    rw [hsl.out] at hlen hat
    clear ha
    go_enter Try.func66, Try.ntmps66
    go_wp2_with fail
    rw [← hw1]
    clear hw1
    obtain ⟨c3, f3, l3⟩ := k3.rules
    go_wp2_with fail
    refine (h1 _ hS1 hG1).mono ?_
    rintro e W ⟨rfl, hb⟩
    clear c3 f3 l3 h1
    replace k3 := k3.below hb
    replace b := b.trans (hb.mono b.size)
    replace hS1 := hS1.below hb
    replace hG1 := hG1.below hb
    clear hb
    have hgW := k3.lt
    go_wp2_with fail
    go_loopw [5, 6] (fun u i wr => ∃ t : Nat, i = .int .i64 (t : Int) ∧ t ≤ ns + 48 ∧ wr.ownsRow W.heap.size 62 2 u t (((encA a).take t).flatMap Bnd.cells) ∧ Below W.heap.size W wr) (fun u i wr => ns + 48 - (intOf i).toNat)
    case atStart => exact ⟨0, rfl, Nat.zero_le _, ⟨rfl, .inl ⟨rfl, rfl⟩⟩, Below.refl _ _⟩
    case round =>
      obtain ⟨t, rfl, ht, hown, hb⟩ := hrel
      have k3v := k3.below hb
      obtain ⟨c3, f3, l3⟩ := k3v.rules
      by_cases hlt : t < ns + 48
      · have ht0 : (0 : Int) ≤ (t : Int) := by omega
        have ht1 : (t : Int) < (ns : Int) + 48 := by omega
        have hta := Lib.hid (hat.out t hlt)
        have hsa : Hid (encTo a t ng = encAtS a t) := by show _ = _; unfold encAtS; rw [hgl.out]
        have hgW2 := hb.size
        have k70 := Blk.new wr 62 #[.int .i64 0, .int .i64 0]
        have hbV := (Below.refl wr.heap.size wr).alloc (Nat.le_refl _) (.cells #[.int .i64 0, .int .i64 0] 62)
        generalize wr = V at *
        clear wr
        go_wp2_with fail
        clear c3 f3 l3
        generalize V.alloc (.cells #[.int .i64 0, .int .i64 0] 62) = V1 at *
        go_loopw [8] (fun i wr => ∃ k : Nat, i = .int .i64 (k : Int) ∧ k ≤ ng ∧ Blk wr V.heap.size 62 #[.int .i64 (encTo a t k).lo, .int .i64 (encTo a t k).hi] ∧ Below V.heap.size V wr) (fun i wr => ng - (intOf i).toNat)
        case atStart => exact ⟨0, rfl, Nat.zero_le _, k70, hbV⟩
        case round =>
          clear k70 hbV
          obtain ⟨k, rfl, hk, k7, hb8⟩ := hrel
          have hbx := hb.trans (hb8.mono hb.size)
          have k38 := k3v.below hb8
          obtain ⟨c3, f3, l3⟩ := k38.rules
          by_cases hkl : k < ng
          · obtain ⟨x, hx⟩ := some_of_lt hgl.out hkl
            have hxg : a.gs.getD k gun0 = x := by rw [List.getD_eq_getElem?_getD, hx]; rfl
            obtain ⟨bq, oq, hA, -, -, -, -, e2, e3⟩ := (hG1.below hbx).gun hx
            have hxo := hgo.out x (List.mem_of_getElem? hx)
            have hk0 : (0 : Int) ≤ (k : Int) := by omega
            have hk1 : (k : Int) < (ng : Int) := by omega
            have hsx : Hid (encTo a t (k + 1) = plusB (encTo a t k) (betS a.sh x t)) := by show _ = _; rw [encTo, hxg]
            have hgx := Lib.hid (fun d hd W h1 h2 => hgv.out x k hx t d W (by omega) hd h1 h2)
            have hb1 := hbd.out t k (by have := hgl.out; omega)
            have hb2 := hbb.out x hxo t (widS x)
            obtain ⟨wn, hwn⟩ : ∃ n, widS x = n := ⟨_, rfl⟩
            have hwd := widS_posQ (g := x) hxo.2.2.2.2.2.1
            rw [hwn] at hwd hb2
            have hbS : Hid (betTo a.sh x t wn = betS a.sh x t) := by show _ = _; rw [← hwn]; rfl
            have hstart : Hid (betTo a.sh x t 0 = still (giveS a.sh x t x.late.lo)) := rfl
            have hstep : Hid (∀ j : Nat, betTo a.sh x t (j + 1) = ⟨min (betTo a.sh x t j).lo (giveS a.sh x t (x.late.lo + (j : Int))), max (betTo a.sh x t j).hi (giveS a.sh x t (x.late.lo + (j : Int)))⟩) := by show ∀ _, _; intro j; rfl
            obtain ⟨-, -, -, -, o5, o6, o7⟩ := hxo
            obtain ⟨hw0, hwe⟩ := hwd
            have hw1 : (wn : Int) ≤ x.late.hi + 1 - x.late.lo := by omega
            have hw2 : x.late.hi + 1 - x.late.lo ≤ (wn : Int) := by omega
            clear hwe
            have hglo := fun W => hgx.out x.late.lo ⟨by omega, by omega⟩ W
            have k90 := Blk.new wr 62 #[.int .i64 x.late.lo, .int .i64 x.late.hi]
            have hbel := (Below.refl wr.heap.size wr).alloc (Nat.le_refl _) (.cells #[.int .i64 x.late.lo, .int .i64 x.late.hi] 62)
            have h7l := k7.lt
            have k9 := k90
            replace k7 := k7.below hbel
            have k3' := k38.below hbel
            have hby := hb8.trans (hbel.mono hb8.size)
            replace hbx := hbx.trans (hbel.mono hbx.size)
            clear k90 hbel hwn hb8
            subst hA
            replace hx := Lib.hid hx
            go_wp2_with fail
            clear c3 f3 l3 k38 e2 e3
            generalize wr.heap.size = g9 at *
            generalize wr.alloc (.cells #[.int .i64 x.late.lo, .int .i64 x.late.hi] 62) = V2 at *
            have k3 := k3'
            clear k3'
            refine wp_held_np (fun w' : World => (∀ j, w'.cell? ⟨w.heap.size, j, none⟩ = #[Value.slice S ns cs, .slice (some ⟨bq, oq, none⟩) ng cg][j]?) ∧ (∀ j, w'.cell? ⟨g9, j, none⟩ = #[Value.int .i64 x.late.lo, .int .i64 x.late.hi][j]?)) (by kernel_rfl) ?_
            replace k3 := k3.drew
            replace k7 := k7.drew
            replace k9 := k9.drew
            replace hbx := hbx.drew
            replace hby := hby.drew
            generalize V2.drew = V3 at *
            have hSx : (fun w' : World => (∀ j, w'.cell? ⟨w.heap.size, j, none⟩ = #[Value.slice S ns cs, .slice (some ⟨bq, oq, none⟩) ng cg][j]?) ∧ (∀ j, w'.cell? ⟨g9, j, none⟩ = #[Value.int .i64 x.late.lo, .int .i64 x.late.hi][j]?)) V3 := ⟨k3.cell, k9.cell⟩
            refine held_take (i := 0) (v := ?_) 39 rfl rfl (by kernel_rfl) (by kernel_rfl) (by kernel_rfl) (fun _ _ _ h => h) (Or.inl ⟨by rfl, ?_⟩) hSx ?_
            rotate_left 1
            · intro w' hSw
              try dsimp only at hSw
              obtain ⟨q1, q2⟩ := hSw
              go_simp
              all_goals with_reducible rfl
            try simp only [Act.put, List.setIfInBounds_toArray, List.set_cons_zero, List.set_cons_succ]
            refine held_take (i := 1) (v := ?_) 40 rfl rfl (by kernel_rfl) (by kernel_rfl) (by kernel_rfl) (fun _ _ _ h => h) (Or.inl ⟨by rfl, ?_⟩) hSx ?_
            rotate_left 1
            · intro w' hSw
              try dsimp only at hSw
              obtain ⟨q1, q2⟩ := hSw
              go_simp
              all_goals with_reducible rfl
            try simp only [Act.put, List.setIfInBounds_toArray, List.set_cons_zero, List.set_cons_succ]
            refine held_take (i := 2) (v := ?_) 41 rfl rfl (by kernel_rfl) (by kernel_rfl) (by kernel_rfl) (fun _ _ _ h => h) (Or.inl ⟨by rfl, ?_⟩) hSx ?_
            rotate_left 1
            · intro w' hSw
              try dsimp only at hSw
              obtain ⟨q1, q2⟩ := hSw
              go_simp
              all_goals with_reducible rfl
            try simp only [Act.put, List.setIfInBounds_toArray, List.set_cons_zero, List.set_cons_succ]
            refine held_take (i := 3) (v := ?_) 42 rfl rfl (by kernel_rfl) (by kernel_rfl) (by kernel_rfl) (fun _ _ _ h => h) (Or.inl ⟨by rfl, ?_⟩) hSx ?_
            rotate_left 1
            · intro w' hSw
              try dsimp only at hSw
              obtain ⟨q1, q2⟩ := hSw
              go_simp
              all_goals with_reducible rfl
            try simp only [Act.put, List.setIfInBounds_toArray, List.set_cons_zero, List.set_cons_succ]
            refine held_take (i := 4) (v := ?_) 43 rfl rfl (by kernel_rfl) (by kernel_rfl) (by kernel_rfl) (fun _ _ _ h => h) (Or.inl ⟨by rfl, ?_⟩) hSx ?_
            rotate_left 1
            · intro w' hSw
              try dsimp only at hSw
              obtain ⟨q1, q2⟩ := hSw
              go_simp
              all_goals with_reducible rfl
            try simp only [Act.put, List.setIfInBounds_toArray, List.set_cons_zero, List.set_cons_succ]
            refine held_take (i := 6) (v := ?_) 45 rfl rfl (by kernel_rfl) (by kernel_rfl) (by kernel_rfl) (fun _ _ _ h => h) (Or.inl ⟨by rfl, ?_⟩) hSx ?_
            rotate_left 1
            · intro w' hSw
              try dsimp only at hSw
              obtain ⟨q1, q2⟩ := hSw
              go_simp
              all_goals with_reducible rfl
            try simp only [Act.put, List.setIfInBounds_toArray, List.set_cons_zero, List.set_cons_succ]
            refine held_take (i := 7) (v := ?_) 46 rfl rfl (by kernel_rfl) (by kernel_rfl) (by kernel_rfl) (fun _ _ _ h => h) (Or.inl ⟨by rfl, ?_⟩) hSx ?_
            rotate_left 1
            · intro w' hSw
              try dsimp only at hSw
              obtain ⟨q1, q2⟩ := hSw
              go_simp
              all_goals with_reducible rfl
            try simp only [Act.put, List.setIfInBounds_toArray, List.set_cons_zero, List.set_cons_succ]
            refine held_take (i := 8) (v := ?_) 47 rfl rfl (by kernel_rfl) (by kernel_rfl) (by kernel_rfl) (fun _ _ _ h => h) (Or.inl ⟨by rfl, ?_⟩) hSx ?_
            rotate_left 1
            · intro w' hSw
              try dsimp only at hSw
              obtain ⟨q1, q2⟩ := hSw
              go_simp
              all_goals with_reducible rfl
            try simp only [Act.put, List.setIfInBounds_toArray, List.set_cons_zero, List.set_cons_succ]
            refine held_take (i := 9) (v := ?_) 48 rfl rfl (by kernel_rfl) (by kernel_rfl) (by kernel_rfl) (fun _ _ _ h => h) (Or.inl ⟨by rfl, ?_⟩) hSx ?_
            rotate_left 1
            · intro w' hSw
              try dsimp only at hSw
              obtain ⟨q1, q2⟩ := hSw
              go_simp
              all_goals with_reducible rfl
            try simp only [Act.put, List.setIfInBounds_toArray, List.set_cons_zero, List.set_cons_succ]
            refine held_take (i := 10) (v := ?_) 49 rfl rfl (by kernel_rfl) (by kernel_rfl) (by kernel_rfl) (fun _ _ _ h => h) (Or.inl ⟨by rfl, ?_⟩) hSx ?_
            rotate_left 1
            · intro w' hSw
              try dsimp only at hSw
              obtain ⟨q1, q2⟩ := hSw
              go_simp
              all_goals with_reducible rfl
            try simp only [Act.put, List.setIfInBounds_toArray, List.set_cons_zero, List.set_cons_succ]
            clear hSx
            refine held_one (i := 5) (by kernel_rfl) rfl rfl (fun K hK => ?_)
            go_simp
            refine (hglo _ (hS1.below hbx) (hG1.below hbx)).mono ?_
            rintro e V4 ⟨rfl, hbel⟩
            replace k3 := k3.below hbel
            replace k7 := k7.below hbel
            replace k9 := k9.below hbel
            replace hbx := hbx.trans (hbel.mono hbx.size)
            replace hby := hby.trans (hbel.mono hby.size)
            clear hbel
            refine hK _ _ (⟨k3.cell, k9.cell⟩) ?_
            clear hK K
            try simp only [Act.put, List.setIfInBounds_toArray, List.set_cons_zero, List.set_cons_succ]
            have hSx : (fun w' : World => (∀ j, w'.cell? ⟨w.heap.size, j, none⟩ = #[Value.slice S ns cs, .slice (some ⟨bq, oq, none⟩) ng cg][j]?) ∧ (∀ j, w'.cell? ⟨g9, j, none⟩ = #[Value.int .i64 x.late.lo, .int .i64 x.late.hi][j]?)) V4 := ⟨k3.cell, k9.cell⟩
            clear hSx
            refine held_one (i := 11) (by kernel_rfl) rfl rfl (fun K hK => ?_)
            go_simp
            refine (hglo _ (hS1.below hbx) (hG1.below hbx)).mono ?_
            rintro e V5 ⟨rfl, hbel⟩
            replace k3 := k3.below hbel
            replace k7 := k7.below hbel
            replace k9 := k9.below hbel
            replace hbx := hbx.trans (hbel.mono hbx.size)
            replace hby := hby.trans (hbel.mono hby.size)
            clear hbel
            refine hK _ _ (⟨k3.cell, k9.cell⟩) ?_
            clear hK K
            try simp only [Act.put, List.setIfInBounds_toArray, List.set_cons_zero, List.set_cons_succ]
            have hSx : (fun w' : World => (∀ j, w'.cell? ⟨w.heap.size, j, none⟩ = #[Value.slice S ns cs, .slice (some ⟨bq, oq, none⟩) ng cg][j]?) ∧ (∀ j, w'.cell? ⟨g9, j, none⟩ = #[Value.int .i64 x.late.lo, .int .i64 x.late.hi][j]?)) V5 := ⟨k3.cell, k9.cell⟩
            refine held_take (i := 12) (v := ?_) 10 rfl rfl (by kernel_rfl) (by kernel_rfl) (by kernel_rfl) (fun _ _ _ h => h) (Or.inl ⟨by rfl, ?_⟩) hSx ?_
            rotate_left 1
            · intro w' hSw
              try dsimp only at hSw
              obtain ⟨q1, q2⟩ := hSw
              go_simp
              all_goals with_reducible rfl
            try simp only [Act.put, List.setIfInBounds_toArray, List.set_cons_zero, List.set_cons_succ]
            refine held_take (i := 13) (v := ?_) 11 rfl rfl (by kernel_rfl) (by kernel_rfl) (by kernel_rfl) (fun _ _ _ h => h) (Or.inl ⟨by rfl, ?_⟩) hSx ?_
            rotate_left 1
            · intro w' hSw
              try dsimp only at hSw
              obtain ⟨q1, q2⟩ := hSw
              go_simp
              all_goals with_reducible rfl
            try simp only [Act.put, List.setIfInBounds_toArray, List.set_cons_zero, List.set_cons_succ]
            refine wpAnyH_done (by kernel_rfl) (noPanic_normal ?_) _
            clear hSx hglo
            try simp only [Act.put, List.setIfInBounds_toArray, List.set_cons_zero, List.set_cons_succ]
            obtain ⟨c9, f9, l9⟩ := k9.rules
            go_wp2_with fail
            clear c9 f9 l9
            go_loopw [10, 11, 12] (fun lo hi i wr => ∃ j : Nat, i = .int .i64 (x.late.lo + (j : Int)) ∧ j ≤ wn ∧ lo = .int .i64 (betTo a.sh x t j).lo ∧ hi = .int .i64 (betTo a.sh x t j).hi ∧ Below V5.heap.size V5 wr) (fun lo hi i wr => wn - (intOf i - x.late.lo).toNat)
            case atStart => exact ⟨0, by simp, Nat.zero_le _, by rw [hstart.out]; rfl, by rw [hstart.out]; rfl, Below.refl _ _⟩
            case round =>
              obtain ⟨j, rfl, hj, rfl, rfl, hb10⟩ := hrel
              replace k3 := k3.below hb10
              replace k7 := k7.below hb10
              replace k9 := k9.below hb10
              replace hbx := hbx.trans (hb10.mono hbx.size)
              replace hby := hby.trans (hb10.mono hby.size)
              obtain ⟨c9, f9, l9⟩ := k9.rules
              by_cases hjw : j < wn
              · have hj1 : x.late.lo + (j : Int) ≤ x.late.hi := by omega
                have hst := Lib.hid (hstep.out j)
                have hgj := fun W => hgx.out (x.late.lo + (j : Int)) ⟨by omega, by omega⟩ W
                generalize giveS a.sh x t (x.late.lo + (j : Int)) = gv at *
                generalize (betTo a.sh x t j).lo = ml at *
                generalize (betTo a.sh x t j).hi = mh at *
                have hd1 : Hid (x.late.lo + (j : Int) + 1 = x.late.lo + ((j + 1 : Nat) : Int)) := by show _ = _; omega
                have hmn := fun ats ty => hmin ats ty ml gv
                have hmx := fun ats ty => hmax ats ty mh gv
                have u1 := IntWalk.i64_in (x.late.lo + (j : Int) + 1) (by omega)
                go_wp2_with fail
                clear c9 f9 l9
                refine wp_held_np (fun w' : World => (∀ j, w'.cell? ⟨w.heap.size, j, none⟩ = #[Value.slice S ns cs, .slice (some ⟨bq, oq, none⟩) ng cg][j]?) ∧ True) (by kernel_rfl) ?_
                replace k3 := k3.drew
                replace k7 := k7.drew
                replace k9 := k9.drew
                replace hbx := hbx.drew
                replace hby := hby.drew
                replace hb10 := hb10.drew
                generalize wr.drew = X3 at *
                have hSx : (fun w' : World => (∀ j, w'.cell? ⟨w.heap.size, j, none⟩ = #[Value.slice S ns cs, .slice (some ⟨bq, oq, none⟩) ng cg][j]?) ∧ True) X3 := ⟨k3.cell, trivial⟩
                refine held_take (i := 0) (v := ?_) 59 rfl rfl (by kernel_rfl) (by kernel_rfl) (by kernel_rfl) (fun _ _ _ h => h) (Or.inl ⟨by rfl, ?_⟩) hSx ?_
                rotate_left 1
                · intro w' hSw
                  try dsimp only at hSw
                  obtain ⟨q1, q2⟩ := hSw
                  go_simp
                  all_goals with_reducible rfl
                try simp only [Act.put, List.setIfInBounds_toArray, List.set_cons_zero, List.set_cons_succ]
                refine held_take (i := 1) (v := ?_) 60 rfl rfl (by kernel_rfl) (by kernel_rfl) (by kernel_rfl) (fun _ _ _ h => h) (Or.inl ⟨by rfl, ?_⟩) hSx ?_
                rotate_left 1
                · intro w' hSw
                  try dsimp only at hSw
                  obtain ⟨q1, q2⟩ := hSw
                  go_simp
                  all_goals with_reducible rfl
                try simp only [Act.put, List.setIfInBounds_toArray, List.set_cons_zero, List.set_cons_succ]
                refine held_take (i := 2) (v := ?_) 61 rfl rfl (by kernel_rfl) (by kernel_rfl) (by kernel_rfl) (fun _ _ _ h => h) (Or.inl ⟨by rfl, ?_⟩) hSx ?_
                rotate_left 1
                · intro w' hSw
                  try dsimp only at hSw
                  obtain ⟨q1, q2⟩ := hSw
                  go_simp
                  all_goals with_reducible rfl
                try simp only [Act.put, List.setIfInBounds_toArray, List.set_cons_zero, List.set_cons_succ]
                refine held_take (i := 3) (v := ?_) 62 rfl rfl (by kernel_rfl) (by kernel_rfl) (by kernel_rfl) (fun _ _ _ h => h) (Or.inl ⟨by rfl, ?_⟩) hSx ?_
                rotate_left 1
                · intro w' hSw
                  try dsimp only at hSw
                  obtain ⟨q1, q2⟩ := hSw
                  go_simp
                  all_goals with_reducible rfl
                try simp only [Act.put, List.setIfInBounds_toArray, List.set_cons_zero, List.set_cons_succ]
                refine held_take (i := 4) (v := ?_) 63 rfl rfl (by kernel_rfl) (by kernel_rfl) (by kernel_rfl) (fun _ _ _ h => h) (Or.inl ⟨by rfl, ?_⟩) hSx ?_
                rotate_left 1
                · intro w' hSw
                  try dsimp only at hSw
                  obtain ⟨q1, q2⟩ := hSw
                  go_simp
                  all_goals with_reducible rfl
                try simp only [Act.put, List.setIfInBounds_toArray, List.set_cons_zero, List.set_cons_succ]
                refine held_take (i := 7) (v := ?_) 66 rfl rfl (by kernel_rfl) (by kernel_rfl) (by kernel_rfl) (fun _ _ _ h => h) (Or.inl ⟨by rfl, ?_⟩) hSx ?_
                rotate_left 1
                · intro w' hSw
                  try dsimp only at hSw
                  obtain ⟨q1, q2⟩ := hSw
                  go_simp
                  all_goals with_reducible rfl
                try simp only [Act.put, List.setIfInBounds_toArray, List.set_cons_zero, List.set_cons_succ]
                refine held_take (i := 8) (v := ?_) 67 rfl rfl (by kernel_rfl) (by kernel_rfl) (by kernel_rfl) (fun _ _ _ h => h) (Or.inl ⟨by rfl, ?_⟩) hSx ?_
                rotate_left 1
                · intro w' hSw
                  try dsimp only at hSw
                  obtain ⟨q1, q2⟩ := hSw
                  go_simp
                  all_goals with_reducible rfl
                try simp only [Act.put, List.setIfInBounds_toArray, List.set_cons_zero, List.set_cons_succ]
                refine held_take (i := 9) (v := ?_) 68 rfl rfl (by kernel_rfl) (by kernel_rfl) (by kernel_rfl) (fun _ _ _ h => h) (Or.inl ⟨by rfl, ?_⟩) hSx ?_
                rotate_left 1
                · intro w' hSw
                  try dsimp only at hSw
                  obtain ⟨q1, q2⟩ := hSw
                  go_simp
                  all_goals with_reducible rfl
                try simp only [Act.put, List.setIfInBounds_toArray, List.set_cons_zero, List.set_cons_succ]
                refine held_take (i := 10) (v := ?_) 69 rfl rfl (by kernel_rfl) (by kernel_rfl) (by kernel_rfl) (fun _ _ _ h => h) (Or.inl ⟨by rfl, ?_⟩) hSx ?_
                rotate_left 1
                · intro w' hSw
                  try dsimp only at hSw
                  obtain ⟨q1, q2⟩ := hSw
                  go_simp
                  all_goals with_reducible rfl
                try simp only [Act.put, List.setIfInBounds_toArray, List.set_cons_zero, List.set_cons_succ]
                refine held_take (i := 11) (v := ?_) 70 rfl rfl (by kernel_rfl) (by kernel_rfl) (by kernel_rfl) (fun _ _ _ h => h) (Or.inl ⟨by rfl, ?_⟩) hSx ?_
                rotate_left 1
                · intro w' hSw
                  try dsimp only at hSw
                  obtain ⟨q1, q2⟩ := hSw
                  go_simp
                  all_goals with_reducible rfl
                try simp only [Act.put, List.setIfInBounds_toArray, List.set_cons_zero, List.set_cons_succ]
                clear hSx
                refine held_one (i := 5) (by kernel_rfl) rfl rfl (fun K hK => ?_)
                go_simp
                refine (hgj _ (hS1.below hbx) (hG1.below hbx)).mono ?_
                rintro e X4 ⟨rfl, hbel⟩
                replace k3 := k3.below hbel
                replace k7 := k7.below hbel
                replace k9 := k9.below hbel
                replace hbx := hbx.trans (hbel.mono hbx.size)
                replace hby := hby.trans (hbel.mono hby.size)
                replace hb10 := hb10.trans (hbel.mono hb10.size)
                clear hbel
                have hSx : (fun w' : World => (∀ j, w'.cell? ⟨w.heap.size, j, none⟩ = #[Value.slice S ns cs, .slice (some ⟨bq, oq, none⟩) ng cg][j]?) ∧ True) X4 := ⟨k3.cell, trivial⟩
                refine hK _ _ hSx ?_
                clear hK K
                try simp only [Act.put, List.setIfInBounds_toArray, List.set_cons_zero, List.set_cons_succ]
                refine held_take (i := 6) (v := ?_) 65 rfl rfl (by kernel_rfl) (by kernel_rfl) (by kernel_rfl) (fun _ _ _ h => h) (Or.inl ⟨by rfl, ?_⟩) hSx ?_
                rotate_left 1
                · intro w' hSw
                  try dsimp only at hSw
                  obtain ⟨q1, q2⟩ := hSw
                  go_simp
                  all_goals with_reducible rfl
                try simp only [Act.put, List.setIfInBounds_toArray, List.set_cons_zero, List.set_cons_succ]
                clear hSx
                refine held_one (i := 12) (by kernel_rfl) rfl rfl (fun K hK => ?_)
                go_simp
                refine (hgj _ (hS1.below hbx) (hG1.below hbx)).mono ?_
                rintro e X5 ⟨rfl, hbel⟩
                replace k3 := k3.below hbel
                replace k7 := k7.below hbel
                replace k9 := k9.below hbel
                replace hbx := hbx.trans (hbel.mono hbx.size)
                replace hby := hby.trans (hbel.mono hby.size)
                replace hb10 := hb10.trans (hbel.mono hb10.size)
                clear hbel
                have hSx : (fun w' : World => (∀ j, w'.cell? ⟨w.heap.size, j, none⟩ = #[Value.slice S ns cs, .slice (some ⟨bq, oq, none⟩) ng cg][j]?) ∧ True) X5 := ⟨k3.cell, trivial⟩
                refine hK _ _ hSx ?_
                clear hK K
                try simp only [Act.put, List.setIfInBounds_toArray, List.set_cons_zero, List.set_cons_succ]
                refine held_take (i := 13) (v := ?_) 72 rfl rfl (by kernel_rfl) (by kernel_rfl) (by kernel_rfl) (fun _ _ _ h => h) (Or.inl ⟨by rfl, ?_⟩) hSx ?_
                rotate_left 1
                · intro w' hSw
                  try dsimp only at hSw
                  obtain ⟨q1, q2⟩ := hSw
                  go_simp
                  all_goals with_reducible rfl
                try simp only [Act.put, List.setIfInBounds_toArray, List.set_cons_zero, List.set_cons_succ]
                refine held_take (i := 14) (v := ?_) 10 rfl rfl (by kernel_rfl) (by kernel_rfl) (by kernel_rfl) (fun _ _ _ h => h) (Or.inl ⟨by rfl, ?_⟩) hSx ?_
                rotate_left 1
                · intro w' hSw
                  try dsimp only at hSw
                  obtain ⟨q1, q2⟩ := hSw
                  go_simp
                  all_goals with_reducible rfl
                try simp only [Act.put, List.setIfInBounds_toArray, List.set_cons_zero, List.set_cons_succ]
                refine held_take (i := 15) (v := ?_) 11 rfl rfl (by kernel_rfl) (by kernel_rfl) (by kernel_rfl) (fun _ _ _ h => h) (Or.inl ⟨by rfl, ?_⟩) hSx ?_
                rotate_left 1
                · intro w' hSw
                  try dsimp only at hSw
                  obtain ⟨q1, q2⟩ := hSw
                  go_simp
                  all_goals with_reducible rfl
                try simp only [Act.put, List.setIfInBounds_toArray, List.set_cons_zero, List.set_cons_succ]
                refine wpAnyH_done (by kernel_rfl) (noPanic_normal ?_) _
                clear hSx hgj
                try simp only [Act.put, List.setIfInBounds_toArray, List.set_cons_zero, List.set_cons_succ]
                go_wp2_with fail
                go_roundw
                case rel => exact ⟨j + 1, by rw [hd1.out], by omega, by rw [hst.out], by rw [hst.out], hb10⟩
                case measure => simp [intOf]; omega
              · obtain rfl : j = wn := by omega
                have hj1 : ¬ x.late.lo + (j : Int) ≤ x.late.hi := by omega
                rw [hbS.out] at hb2
                rw [hbS.out]
                generalize betS a.sh x t = y at *
                generalize encTo a t k = m at *
                have u1 := IntWalk.i64_in (m.lo + y.lo) (by omega)
                have u2 := IntWalk.i64_in (m.hi + y.hi) (by omega)
                have k7z := (k7.set_ 0 (.int .i64 (m.lo + y.lo))).set_ 1 (.int .i64 (m.hi + y.hi))
                simp only [List.setIfInBounds_toArray, List.set_cons_zero, List.set_cons_succ] at k7z
                have byz := (hby.setCell (p := ⟨V.heap.size, 0, none⟩) (Nat.le_refl _) (.int .i64 (m.lo + y.lo))).setCell (p := ⟨V.heap.size, 1, none⟩) (Nat.le_refl _) (.int .i64 (m.hi + y.hi))
                obtain ⟨c7, f7, l7⟩ := k7.rules
                clear hb1 hb2
                go_wp2_with fail
                go_roundw
                case rel => exact ⟨k + 1, by go_num, by omega, by rw [hsx.out]; exact k7z, byz⟩
                case measure => simp [intOf]; omega
          · obtain rfl : k = ng := by omega
            rw [hsa.out] at k7
            obtain ⟨xe, hxe⟩ : ∃ xe, encAtS a t = xe := ⟨_, rfl⟩
            rw [hxe] at k7
            have hbig1 : Hid (t + 1 ≤ maxLen) := by show t + 1 ≤ maxLen; unfold maxLen; omega
            have hbig2 : Hid ((t + 1) * 16 ≤ 140737488355328) := by show (t + 1) * 16 ≤ 140737488355328; omega
            have hown9 := ownsRow_below hown hb8
            have hnews : ∀ (j : Nat) (u : Value), ([.int .i64 xe.lo, .int .i64 xe.hi] : List Value)[j]? = some u → (wr.alloc (.cells #[.int .i64 xe.lo, .int .i64 xe.hi] 62)).cell? ((⟨wr.heap.size, 0, none⟩ : Addr).add j) = some u :=
              World.news_of_block (cs := #[.int .i64 xe.lo, .int .i64 xe.hi]) (World.alloc_heap_new wr _)
            have hownf := hown9.alloc (.cells #[.int .i64 xe.lo, .int .i64 xe.hi] 62)
            have hbf := hbx.alloc hbx.size (.cells #[.int .i64 xe.lo, .int .i64 xe.hi] 62)
            have htk : Hid (((encA a).take (t + 1)).flatMap Bnd.cells = ((encA a).take t).flatMap Bnd.cells ++ [.int .i64 xe.lo, .int .i64 xe.hi]) := by show _ = _; rw [takeFlat hta.out, hxe]; rfl
            replace hxe := Lib.hid hxe
            obtain ⟨c7, f7, l7⟩ := k7.rules
            go_wp2_with (at_builtin; refine wpList_append_lies _ rfl (.tmp 82) (.tmp 84) 47 rfl W.heap.size 62 i0 (.agg #[.int .i64 0, .int .i64 0]) 2 16 Try.underlying47 hi0 hz0 hz1 hz2 rfl (by decide) u5 t (((encA a).take t).flatMap Bnd.cells) rfl hownf ⟨wr.heap.size, 0, none⟩ 1 1 [.int .i64 xe.lo, .int .i64 xe.hi] rfl rfl hnews (by simp [Value.oneCell']) (by decide) hbig1.out hbig2.out hbf.size (wr.heap.size + 1) (by simp) ?_; intro g cap w7 hown7 hgrow hlies hlt7)
            have hbg : Below W.heap.size _ w7 := ⟨hgrow.os, hgrow.tape, hgrow.output, hgrow.size, fun b hb2 => hgrow.block b (Nat.lt_of_lt_of_le hb2 hbf.size) (fun e => by have := (hownf.lt _ e.symm).1; omega)⟩
            have hbh := hbf.trans hbg
            go_roundw
            case rel => exact ⟨t + 1, by go_num, by omega, by rw [htk.out]; exact hown7, hbh⟩
            case measure => simp [intOf]; omega
      · obtain rfl : t = ns + 48 := by omega
        rw [List.take_of_length_le (by rw [hlen.out]; exact Nat.le_refl _)] at hown
        obtain ⟨P, pc, rfl, hP1⟩ := SlAt.of_own (enc := Bnd.cells) hown (by omega) (encA a) rfl (fun _ => rfl) hlen.out
        go_wp2_with fail
        go_ret2
        rw [hv.out]
        exact ⟨P, _, pc, rfl, hP1.mono b.size, b.trans (hb.mono b.size)⟩
  · rw [if_neg ha] at h1
    have hv : Hid (encAR a = ([], 50)) := by show _ = _; unfold encAR; rw [if_neg ha]
    clear ha
    go_enter Try.func66, Try.ntmps66
    go_wp2_with fail
    rw [← hw1]
    clear hw1
    obtain ⟨c3, f3, l3⟩ := k3.rules
    go_wp2_with fail
    refine (h1 _ hS1 hG1).mono ?_
    rintro e W ⟨rfl, hb⟩
    clear c3 f3 l3 h1
    go_wp2_with fail
    go_ret2
    rw [hv.out]
    exact RetSl.none_ (b.trans (hb.mono b.size))
end Go.Proofs.Ytfengddpfeneiaa
