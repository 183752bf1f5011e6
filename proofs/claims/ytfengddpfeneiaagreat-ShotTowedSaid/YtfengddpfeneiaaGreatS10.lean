/-
  Shots, walks: evened bounds.
-/
import Derived.Test.YtfengddpfeneiaaGreatS6
import Derived.Test.YtfengddpfeneiaaGreatI2
namespace Go.Proofs.YtfengddpfeneiaaGreat
open Go.RowKit Go.Shelf
set_option linter.unusedSimpArgs false
set_option linter.unusedVariables false
attribute [local irreducible] wpStill

def errE (b : List Bnd) : Int := if okDists b = true then (if okEven b = true then 0 else 4) else 53
def RetEv (b : List Bnd) (w : World) (e : Ending) (w' : World) : Prop :=
  ∃ L nl cl H nh ch, e = .returned (.tuple #[.slice L nl cl, .slice H nh ch, .int .i64 (errE b)]) ∧ (errE b = 0 → SlAt w' w.heap.size 1 ivs L nl cl (lowsL b) ∧ SlAt w' w.heap.size 1 ivs H nh ch (highsL b)) ∧ Below w.heap.size w w'
theorem RetEv.err {b : List Bnd} {w w' : World} {er : Int} (h : errE b = er) (hz : er ≠ 0) (hb : Below w.heap.size w w') : RetEv b w (.returned (.tuple #[.slice none 0 0, .slice none 0 0, .int .i64 er])) w' :=
  ⟨none, 0, 0, none, 0, 0, by rw [h], fun h2 => absurd (h.symm.trans h2) hz, hb⟩
def loL (b : List Bnd) : List Int := b.map (·.lo)
def hiL (b : List Bnd) : List Int := b.map (·.hi)
theorem lowsL_len (b : List Bnd) : (lowsL b).length = b.length := by simp [lowsL]
theorem highsL_len (b : List Bnd) : (highsL b).length = b.length := by simp [highsL]
theorem lowsL_at (b : List Bnd) {t : Nat} (h : t < b.length) : (lowsL b)[t]? = some (lowT b t) := mapRange_at _ h
theorem highsL_at (b : List Bnd) {t : Nat} (h : t < b.length) : (highsL b)[t]? = some (highT b t) := mapRange_at _ h
theorem highT_last {b : List Bnd} {t : Nat} (h : t + 1 = b.length) : highT b t = (b.getD t ⟨0, 0⟩).hi := by
  unfold highT; rw [List.drop_eq_nil_of_le (by omega)]; rfl
theorem highT_prev {b : List Bnd} {t : Nat} (h : t + 1 < b.length) : highT b t = min (b.getD t ⟨0, 0⟩).hi (highT b (t + 1)) := by
  unfold highT
  rw [List.drop_eq_getElem_cons h, highL, List.getD_eq_getElem?_getD (i := t + 1), List.getElem?_eq_getElem h]; rfl
theorem okDists_bd {b : List Bnd} (h : b.all okDist = true) (t : Nat) : 0 ≤ (b.getD t ⟨0, 0⟩).lo ∧ (b.getD t ⟨0, 0⟩).lo ≤ (b.getD t ⟨0, 0⟩).hi ∧ (b.getD t ⟨0, 0⟩).hi ≤ 1048576 := by
  by_cases ht : t < b.length
  · have := List.all_eq_true.1 h (b.getD t ⟨0, 0⟩) (by rw [List.getD_eq_getElem?_getD, List.getElem?_eq_getElem ht]; exact List.getElem_mem ht)
    exact of_decide_eq_true this
  · rw [List.getD_eq_getElem?_getD, List.getElem?_eq_none (by omega)]; simp
theorem lowT_bd {b : List Bnd} (h : b.all okDist = true) : ∀ t, 0 ≤ lowT b t ∧ lowT b t ≤ 1048576
  | 0 => by have := okDists_bd h 0; rw [lowT]; omega
  | t + 1 => by have := okDists_bd h (t + 1); have := lowT_bd h t; rw [lowT]; omega
theorem highL_bd : ∀ (l : List Bnd) (h : Int), 0 ≤ h → h ≤ 1048576 → (∀ x ∈ l, okDist x = true) → 0 ≤ highL l h ∧ highL l h ≤ 1048576
  | [], h, h1, h2, _ => ⟨h1, h2⟩
  | x :: l, h, h1, h2, hl => by
    have hx := of_decide_eq_true (hl x List.mem_cons_self)
    have := highL_bd l x.hi (by omega) (by omega) (fun y hy => hl y (List.mem_cons_of_mem _ hy))
    rw [highL]; omega
theorem highT_bd {b : List Bnd} (h : b.all okDist = true) (t : Nat) : 0 ≤ highT b t ∧ highT b t ≤ 1048576 := by
  have := okDists_bd h t
  exact highL_bd _ _ (by omega) (by omega) fun x hx => List.all_eq_true.1 h x (List.mem_of_mem_drop hx)
/-- The first lows are evened, the others are not. -/
def evLo (b : List Bnd) (t : Nat) : List Int := (lowsL b).take t ++ (loL b).drop t
theorem loL_len (b : List Bnd) : (loL b).length = b.length := by simp [loL]
theorem hiL_len (b : List Bnd) : (hiL b).length = b.length := by simp [hiL]
theorem evLo_len (b : List Bnd) (t : Nat) : (evLo b t).length = b.length := by unfold evLo; simp [lowsL_len, loL_len]; omega
theorem evLo_all {b : List Bnd} {n : Nat} (h : b.length = n) : evLo b n = lowsL b := by
  unfold evLo; rw [List.take_of_length_le (by rw [lowsL_len]; omega), List.drop_eq_nil_of_le (by rw [loL_len]; omega), List.append_nil]
theorem evLo_one {b : List Bnd} (h : 0 < b.length) : evLo b 1 = loL b := by
  cases b with
  | nil => simp at h
  | cons x b => simp [evLo, lowsL, loL, lowT, List.range_succ_eq_map]
theorem evLo_at {b : List Bnd} {t : Nat} (h : t < b.length) : (evLo b t)[t]? = some (b.getD t ⟨0, 0⟩).lo := by
  unfold evLo
  rw [mixGetQ (by rw [lowsL_len]; omega) (by rw [lowsL_len, loL_len]) (Nat.le_refl _)]
  unfold loL; rw [List.getElem?_map, getD_get ⟨0, 0⟩ h]; rfl
theorem evLo_bef {b : List Bnd} {t : Nat} (h : t + 1 < b.length) : (evLo b (t + 1))[t]? = some (lowT b t) := by
  unfold evLo
  rw [List.getElem?_append_left (by rw [List.length_take, lowsL_len]; omega), List.getElem?_take_of_lt (by omega)]
  exact lowsL_at b (by omega)
theorem evLo_set {b : List Bnd} {t : Nat} (h : t < b.length) : (evLo b t).set t (lowT b t) = evLo b (t + 1) := by
  unfold evLo
  exact mixSetQ (by rw [lowsL_len, loL_len]) (by rw [lowsL_len]; omega) (lowsL_at b h)
/-- The last highs are evened, the others are not. -/
def evHi (b : List Bnd) (t : Nat) : List Int := (hiL b).take t ++ (highsL b).drop t
theorem evHi_len (b : List Bnd) (t : Nat) : (evHi b t).length = b.length := by unfold evHi; simp [highsL_len, hiL_len]; omega
theorem evHi_zero (b : List Bnd) : evHi b 0 = highsL b := by simp [evHi]
theorem evHi_last {b : List Bnd} {t : Nat} (h : t + 1 = b.length) : evHi b t = hiL b := by
  refine List.ext_getElem? fun i => ?_
  unfold evHi
  by_cases hi : i < t
  · rw [List.getElem?_append_left (by rw [List.length_take, hiL_len]; omega), List.getElem?_take_of_lt hi]
  · rw [mixGetQ (by rw [hiL_len]; omega) (by rw [highsL_len, hiL_len]) (by omega)]
    by_cases e : i = t
    · subst e
      rw [highsL_at b (by omega), highT_last h]
      unfold hiL; rw [List.getElem?_map, getD_get ⟨0, 0⟩ (by omega)]; rfl
    · rw [List.getElem?_eq_none (by rw [highsL_len]; omega), List.getElem?_eq_none (by rw [hiL_len]; omega)]
theorem evHi_at {b : List Bnd} {t : Nat} (h : t + 1 < b.length) : (evHi b (t + 1))[t]? = some (b.getD t ⟨0, 0⟩).hi := by
  unfold evHi
  rw [List.getElem?_append_left (by rw [List.length_take, hiL_len]; omega), List.getElem?_take_of_lt (by omega)]
  unfold hiL; rw [List.getElem?_map, getD_get ⟨0, 0⟩ (by omega)]; rfl
theorem evHi_next {b : List Bnd} {t : Nat} (h : t + 1 < b.length) : (evHi b (t + 1))[t + 1]? = some (highT b (t + 1)) := by
  unfold evHi
  rw [mixGetQ (by rw [hiL_len]; omega) (by rw [highsL_len, hiL_len]) (Nat.le_refl _)]
  exact highsL_at b h
theorem evHi_set {b : List Bnd} {t : Nat} (h : t + 1 < b.length) : (evHi b (t + 1)).set t (highT b t) = evHi b t := by
  refine List.ext_getElem? fun i => ?_
  rw [List.getElem?_set]
  unfold evHi
  by_cases e : t = i
  · subst e
    rw [if_pos rfl, if_pos (by simp [hiL_len, highsL_len]; omega), mixGetQ (by rw [hiL_len]; omega) (by rw [highsL_len, hiL_len]) (Nat.le_refl _), highsL_at b (by omega)]
  · rw [if_neg e]
    by_cases hi : i < t
    · rw [List.getElem?_append_left (by rw [List.length_take, hiL_len]; omega), List.getElem?_append_left (by rw [List.length_take, hiL_len]; omega), List.getElem?_take_of_lt (by omega), List.getElem?_take_of_lt (by omega)]
    · rw [mixGetQ (by rw [hiL_len]; omega) (by rw [highsL_len, hiL_len]) (by omega), mixGetQ (by rw [hiL_len]; omega) (by rw [highsL_len, hiL_len]) (by omega)]
theorem okDists_no {bl : List Bnd} {k : Nat} {x : Bnd} (h : bl[k]? = some x) (hx : okDist x = false) : errE bl = 53 := by
  unfold errE okDists
  rw [all_no h hx]; simp
set_option maxRecDepth 100000 in
set_option maxHeartbeats 4000000 in
theorem evened_any (bl : List Bnd) (A : Option Addr) (n c B : Nat) (w : World) (hs : SlAt w B 2 Bnd.cells A n c bl) :
    Calls Tryz.prog 66 #[.slice A n c] w (RetEv bl w) := by
  have hl := Lib.hid hs.len
  have hn := hs.le
  obtain ⟨ii, iih, ii0, ii1, ii2⟩ := info_parts Tryz.infoInt
  by_cases hr : 1 ≤ (n : Int) ∧ (n : Int) ≤ 512
  · have h2 := fun W => sWithin_yes hr W
    have hn1 : 1 ≤ n := by omega
    have hn2 : n ≤ 512 := by omega
    replace hr := Lib.hid hr
    go_enter Tryz.func66, Tryz.ntmps66
    go_wp2_with fail
    refine (h2 _).mono ?_
    rintro e w' ⟨rfl, rfl⟩
    clear h2
    go_wp2_with fail
    go_loopw [2, 3, 16] (fun v u i wr => ∃ k : Nat, i = .int .i64 (k : Int) ∧ k ≤ n ∧ (bl.take k).all okDist = true ∧ wr.ownsRow w.heap.size 3 1 v k ((loL (bl.take k)).flatMap ivs) ∧ wr.ownsRow w.heap.size 3 1 u k ((hiL (bl.take k)).flatMap ivs) ∧ (∀ q, v.ownBlock = some q → u.ownBlock = some q → False) ∧ Below w.heap.size w wr) (fun v u i wr => n - (intOf i).toNat)
    case atStart => exact ⟨0, rfl, Nat.zero_le _, rfl, ⟨rfl, .inl ⟨rfl, rfl⟩⟩, ⟨rfl, .inl ⟨rfl, rfl⟩⟩, (fun q h => by cases h), Below.refl _ _⟩
    case round =>
      obtain ⟨k, rfl, hk, hall, rv, ru, hvu, hb⟩ := hrel
      replace hall := Lib.hid hall
      by_cases hlt : k < n
      · have hk0 : (0 : Int) ≤ (k : Int) := by omega
        have hk1 : (k : Int) < (n : Int) := by omega
        obtain ⟨x, hx⟩ := some_of_lt hl.out hlt
        obtain ⟨bb, off, rfl, -, hbl, e0, e1⟩ := (hs.keep hb.size (fun _ _ h => hb.cell h)).bnd hx
        have htk : Hid (bl.take (k + 1) = bl.take k ++ [x]) := by show _ = _; rw [List.take_add_one, hx]; rfl
        have k6 := Blk.new wr 40 #[.int .i64 x.lo, .int .i64 x.hi]
        have hbel := (Below.refl wr.heap.size wr).alloc (Nat.le_refl _) (.cells #[.int .i64 x.lo, .int .i64 x.hi] 40)
        replace hx := Lib.hid hx
        by_cases q1 : 0 ≤ x.lo ∧ x.lo ≤ x.hi
        · have h3 := fun W => sWithin_yes q1 W
          by_cases q2 : x.hi > 1048576
          · have hno := Lib.hid (okDists_no hx.out (show okDist x = false from decide_eq_false (by omega)))
            replace q1 := Lib.hid q1
            obtain ⟨c6, f6, l6⟩ := k6.rules
            go_wp2_with fail
            refine (h3 _).mono ?_
            rintro e w' ⟨rfl, rfl⟩
            go_wp2_with fail
            go_ret3
            exact RetEv.err hno.out (by omega) (hb.trans (hbel.mono hb.size))
          · have hok : Hid (okDist x = true) := by show _ = _; exact decide_eq_true (by omega)
            replace q1 := Lib.hid q1
            obtain ⟨c6, f6, l6⟩ := k6.rules
            go_wp2_with fail
            refine (h3 _).mono ?_
            rintro e w' ⟨rfl, rfl⟩
            clear h3
            go_wp2_with fail
            clear c6 f6 l6 e0 e1
            have hvx0 : ∀ q, u2.ownBlock = some q → w.heap.size ≤ q ∧ q < wr.heap.size := fun q e => rv.lt q e
            have hux0 : ∀ q, u3.ownBlock = some q → w.heap.size ≤ q ∧ q < wr.heap.size := fun q e => ru.lt q e
            replace rv := ownsRow_below rv hbel
            replace ru := ownsRow_below ru hbel
            replace hb := hb.trans (hbel.mono hb.size)
            clear hbel
            generalize wr.heap.size = g6 at *
            generalize wr.alloc (.cells #[.int .i64 x.lo, .int .i64 x.hi] 40) = wq at *
            have hg6 := k6.lt
            have hvx : ∀ q, u2.ownBlock = some q → w.heap.size ≤ q ∧ q < g6 := fun q e => hvx0 q e
            have hux : ∀ q, u3.ownBlock = some q → w.heap.size ≤ q ∧ q < g6 := fun q e => hux0 q e
            have hbig1 : Hid (k + 1 ≤ maxLen) := by show k + 1 ≤ maxLen; unfold maxLen; omega
            have hbig2 : Hid ((k + 1) * 8 ≤ 140737488355328) := by show (k + 1) * 8 ≤ 140737488355328; omega
            refine wp_held_np (fun w' : World => (∀ j, w'.cell? ⟨g6, j, none⟩ = #[Value.int .i64 x.lo, .int .i64 x.hi][j]?) ∧ True) (by kernel_rfl) ?_
            have hb9 : Below w.heap.size wq wq.drew := (Below.refl _ _).drew
            have sbwd : wq.heap.size ≤ wq.drew.heap.size := Nat.le_refl _
            replace rv : wq.drew.ownsRow _ _ _ _ _ _ := rv
            replace ru : wq.drew.ownsRow _ _ _ _ _ _ := ru
            replace k6 := k6.drew
            generalize wq.drew = wd at *
            have hS : (fun w' : World => (∀ j, w'.cell? ⟨g6, j, none⟩ = #[Value.int .i64 x.lo, .int .i64 x.hi][j]?) ∧ True) wd := ⟨k6.cell, trivial⟩
            refine held_take (i := 0) (v := ?_) 31 rfl rfl (by kernel_rfl) (by kernel_rfl) (by kernel_rfl) (fun _ _ _ h => h) (Or.inl ⟨by rfl, ?_⟩) hS ?_
            rotate_left 1
            · intro w' hSw
              try dsimp only at hSw
              obtain ⟨z0, z1⟩ := hSw
              go_simp
              all_goals with_reducible rfl
            try simp only [Act.put, List.setIfInBounds_toArray, List.set_cons_zero, List.set_cons_succ]
            refine held_take (i := 1) (v := ?_) 32 rfl rfl (by kernel_rfl) (by kernel_rfl) (by kernel_rfl) (fun _ _ _ h => h) (Or.inl ⟨by rfl, ?_⟩) hS ?_
            rotate_left 1
            · intro w' hSw
              try dsimp only at hSw
              obtain ⟨z0, z1⟩ := hSw
              go_simp
              all_goals with_reducible rfl
            try simp only [Act.put, List.setIfInBounds_toArray, List.set_cons_zero, List.set_cons_succ]
            refine held_take (i := 2) (v := ?_) 33 rfl rfl (by kernel_rfl) (by kernel_rfl) (by kernel_rfl) (fun _ _ _ h => h) (Or.inl ⟨by rfl, ?_⟩) hS ?_
            rotate_left 1
            · intro w' hSw
              try dsimp only at hSw
              obtain ⟨z0, z1⟩ := hSw
              go_simp
              all_goals with_reducible rfl
            try simp only [Act.put, List.setIfInBounds_toArray, List.set_cons_zero, List.set_cons_succ]
            refine held_take (i := 5) (v := ?_) 36 rfl rfl (by kernel_rfl) (by kernel_rfl) (by kernel_rfl) (fun _ _ _ h => h) (Or.inl ⟨by rfl, ?_⟩) hS ?_
            rotate_left 1
            · intro w' hSw
              try dsimp only at hSw
              obtain ⟨z0, z1⟩ := hSw
              go_simp
              all_goals with_reducible rfl
            try simp only [Act.put, List.setIfInBounds_toArray, List.set_cons_zero, List.set_cons_succ]
            refine held_take (i := 6) (v := ?_) 37 rfl rfl (by kernel_rfl) (by kernel_rfl) (by kernel_rfl) (fun _ _ _ h => h) (Or.inl ⟨by rfl, ?_⟩) hS ?_
            rotate_left 1
            · intro w' hSw
              try dsimp only at hSw
              obtain ⟨z0, z1⟩ := hSw
              go_simp
              all_goals with_reducible rfl
            try simp only [Act.put, List.setIfInBounds_toArray, List.set_cons_zero, List.set_cons_succ]
            refine held_take (i := 7) (v := ?_) 38 rfl rfl (by kernel_rfl) (by kernel_rfl) (by kernel_rfl) (fun _ _ _ h => h) (Or.inl ⟨by rfl, ?_⟩) hS ?_
            rotate_left 1
            · intro w' hSw
              try dsimp only at hSw
              obtain ⟨z0, z1⟩ := hSw
              go_simp
              all_goals with_reducible rfl
            try simp only [Act.put, List.setIfInBounds_toArray, List.set_cons_zero, List.set_cons_succ]
            clear hS
            refine wpAnyH_fin (f := fun a (q : Value × Value × Value × Value) => (((((a.put (some 34) q.1).put (some 35) q.2.1).put (some 39) q.2.2.1).put (some 40) q.2.2.2).put (some 2) q.2.1).put (some 3) q.2.2.2) (B := fun q W' => W'.ownsRow w.heap.size 3 1 q.2.1 (k + 1) ((loL (bl.take k)).flatMap ivs ++ [.int .i64 x.lo]) ∧ W'.ownsRow w.heap.size 3 1 q.2.2.2 (k + 1) ((hiL (bl.take k)).flatMap ivs ++ [.int .i64 x.hi]) ∧ (∀ p, q.2.1.ownBlock = some p → q.2.2.2.ownBlock = some p → False) ∧ Below w.heap.size wq W') ?_ (fun hrest => ?_)
            · rintro ⟨v34, v35, v39, v40⟩ W3 ⟨ha1, ha2, ha3, ha4⟩
              try simp only [Act.put, List.setIfInBounds_toArray, List.set_cons_zero, List.set_cons_succ]
              refine noPanic_normal ?_
              clear hb9
              go_wp2_with fail
              go_roundw
              case rel =>
                refine ⟨k + 1, by go_num, by omega, allTake_succ hall.out hx.out hok.out, ?_, ?_, ha3, hb.trans ha4⟩
                · rw [htk.out]; unfold loL at *; rw [List.map_append, List.flatMap_append]; simpa [ivs] using ha1
                · rw [htk.out]; unfold hiL at *; rw [List.map_append, List.flatMap_append]; simpa [ivs] using ha2
              case measure => simp [intOf]; omega
            · try simp only [Act.put, List.setIfInBounds_toArray, List.set_cons_zero, List.set_cons_succ] at hrest
              refine held_two (i := 3) (j := 8) (by kernel_rfl) rfl rfl rfl rfl (fun K hK => ?_) (fun K hK => ?_)
              · skip
                go_simp
                have n3 := Blk.new wd 3 #[.int .i64 x.lo]
                have hbel := (Below.refl wd.heap.size wd).alloc (Nat.le_refl _) (.cells #[.int .i64 x.lo] 3)
                have szB : wd.heap.size < (wd.alloc (.cells #[.int .i64 x.lo] 3)).heap.size := by rw [World.size_alloc]; omega
                generalize wd.alloc (.cells #[.int .i64 x.lo] 3) = X1 at *
                have szX1 : wd.heap.size < X1.heap.size := szB
                clear szB
                try replace n3 := n3.below hbel
                try replace n8 := n8.below hbel
                try replace rv := ownsRow_below rv hbel
                try replace ru := ownsRow_below ru hbel
                try replace r4 := ownsRow_below r4 hbel
                replace k6 := k6.below hbel
                replace hb9 := hb9.trans (hbel.mono (Nat.le_trans hb.size sbwd))
                clear hbel
                have sbX1 := Nat.le_trans sbwd (Nat.le_of_lt szX1)
                refine hK _ _ ⟨k6.cell, trivial⟩ ?_
                clear hK K
                try simp only [Act.put, List.setIfInBounds_toArray, List.set_cons_zero, List.set_cons_succ]
                have hg3 : wq.heap.size ≤ wd.heap.size := sbwd
                generalize hge3 : wd.heap.size = g3 at n3 hg3
                refine held_two (i := 4) (j := 8) (by kernel_rfl) rfl rfl rfl rfl (fun K hK => ?_) (fun K hK => ?_)
                · skip
                  refine wp_append_lies _ _ _ 36 (by rfl) w.heap.size 3 ii (.int .i64 0) 1 8 Tryz.underlying36 iih ii0 ii1 ii2 rfl (by omega) u2 k ((loL (bl.take k)).flatMap ivs) (by rfl) rv ⟨g3, 0, none⟩ 1 1 [.int .i64 x.lo] (by rfl) rfl (World.news_of_block (cs := #[.int .i64 x.lo]) n3) (by simp [Value.oneCell']) (by omega) hbig1.out hbig2.out (Nat.le_trans hb.size sbX1) X1.heap.size rfl ?_
                  intro b4 c4 X2 r4 hgrow hlies4 hlt4
                  have hbx : Below w.heap.size X1 X2 := ⟨hgrow.os, hgrow.tape, hgrow.output, hgrow.size, fun b hb2 => hgrow.block b (Nat.lt_of_lt_of_le hb2 (Nat.le_trans hb.size sbX1)) (fun e => by have := hvx _ e.symm; omega)⟩
                  have sbX2 := Nat.le_trans sbX1 hgrow.size
                  replace ru := ru.kept hgrow (by
                    by_cases h0 : u3.ownBlock = none
                    · exact .inl h0
                    · obtain ⟨q, hq⟩ := Option.ne_none_iff_exists'.1 h0
                      exact .inr (fun e => hvu q (by rw [← e]; exact hq) hq))
                  try replace n8 := n8.grown hgrow (fun e => by have := hvx _ e.symm; omega)
                  replace k6 := k6.grown hgrow (fun e => by have := hvx _ e.symm; omega)
                  have hd4 : u3.ownBlock ≠ some b4 := fun e => by
                    rcases hlies4 with h | h
                    · exact hvu _ h e
                    · have := hux _ e; omega
                  replace hb9 := hb9.trans hbx
                  clear hbx hgrow
                  refine hK _ _ ⟨k6.cell, trivial⟩ ?_
                  clear hK K
                  try simp only [Act.put, List.setIfInBounds_toArray, List.set_cons_zero, List.set_cons_succ]
                  refine held_one (i := 8) (by kernel_rfl) rfl rfl (fun K hK => ?_)
                  go_simp
                  have n8 := Blk.new X2 3 #[.int .i64 x.hi]
                  have hbel := (Below.refl X2.heap.size X2).alloc (Nat.le_refl _) (.cells #[.int .i64 x.hi] 3)
                  have szB : X2.heap.size < (X2.alloc (.cells #[.int .i64 x.hi] 3)).heap.size := by rw [World.size_alloc]; omega
                  generalize X2.alloc (.cells #[.int .i64 x.hi] 3) = X3 at *
                  have szX3 : X2.heap.size < X3.heap.size := szB
                  clear szB
                  try replace n3 := n3.below hbel
                  try replace n8 := n8.below hbel
                  try replace rv := ownsRow_below rv hbel
                  try replace ru := ownsRow_below ru hbel
                  try replace r4 := ownsRow_below r4 hbel
                  replace k6 := k6.below hbel
                  replace hb9 := hb9.trans (hbel.mono (Nat.le_trans hb.size sbX2))
                  clear hbel
                  have sbX3 := Nat.le_trans sbX2 (Nat.le_of_lt szX3)
                  refine hK _ _ ⟨k6.cell, trivial⟩ ?_
                  clear hK K
                  try simp only [Act.put, List.setIfInBounds_toArray, List.set_cons_zero, List.set_cons_succ]
                  have hg8 : wq.heap.size ≤ X2.heap.size := sbX2
                  generalize hge8 : X2.heap.size = g8 at n8 hg8
                  refine held_one (i := 9) (by kernel_rfl) rfl rfl (fun K hK => ?_)
                  refine wp_append_lies _ _ _ 36 (by rfl) w.heap.size 3 ii (.int .i64 0) 1 8 Tryz.underlying36 iih ii0 ii1 ii2 rfl (by omega) u3 k ((hiL (bl.take k)).flatMap ivs) (by rfl) ru ⟨g8, 0, none⟩ 1 1 [.int .i64 x.hi] (by rfl) rfl (World.news_of_block (cs := #[.int .i64 x.hi]) n8) (by simp [Value.oneCell']) (by omega) hbig1.out hbig2.out (Nat.le_trans hb.size sbX3) X3.heap.size rfl ?_
                  intro b9 c9 X4 r9 hgrow hlies9 hlt9
                  have hbx : Below w.heap.size X3 X4 := ⟨hgrow.os, hgrow.tape, hgrow.output, hgrow.size, fun b hb2 => hgrow.block b (Nat.lt_of_lt_of_le hb2 (Nat.le_trans hb.size sbX3)) (fun e => by have := hux _ e.symm; omega)⟩
                  have sbX4 := Nat.le_trans sbX3 hgrow.size
                  have hlt4b := r4.lt b4 rfl
                  have hd9 : b4 ≠ b9 := fun e => by
                    rcases hlies9 with h | h
                    · exact hd4 (by rw [e]; exact h)
                    · omega
                  replace r4 := r4.kept hgrow (.inr (fun e => hd4 (by rw [← e]; rfl)))
                  replace k6 := k6.grown hgrow (fun e => by have := hux _ e.symm; omega)
                  replace hb9 := hb9.trans hbx
                  clear hbx hgrow
                  refine hK _ _ ⟨k6.cell, trivial⟩ ?_
                  clear hK K
                  try simp only [Act.put, List.setIfInBounds_toArray, List.set_cons_zero, List.set_cons_succ]
                  have hS : (fun w' : World => (∀ j, w'.cell? ⟨g6, j, none⟩ = #[Value.int .i64 x.lo, .int .i64 x.hi][j]?) ∧ True) _ := ⟨k6.cell, trivial⟩
                  refine held_take (i := 10) (v := ?_) 2 rfl rfl (by kernel_rfl) (by kernel_rfl) (by kernel_rfl) (fun _ _ _ h => h) (Or.inl ⟨by rfl, ?_⟩) hS ?_
                  rotate_left 1
                  · intro w' hSw
                    try dsimp only at hSw
                    obtain ⟨z0, z1⟩ := hSw
                    go_simp
                    all_goals with_reducible rfl
                  try simp only [Act.put, List.setIfInBounds_toArray, List.set_cons_zero, List.set_cons_succ]
                  refine held_take (i := 11) (v := ?_) 3 rfl rfl (by kernel_rfl) (by kernel_rfl) (by kernel_rfl) (fun _ _ _ h => h) (Or.inl ⟨by rfl, ?_⟩) hS ?_
                  rotate_left 1
                  · intro w' hSw
                    try dsimp only at hSw
                    obtain ⟨z0, z1⟩ := hSw
                    go_simp
                    all_goals with_reducible rfl
                  try simp only [Act.put, List.setIfInBounds_toArray, List.set_cons_zero, List.set_cons_succ]
                  refine wpAnyH_done (by kernel_rfl) (hrest (_, _, _, _) _ ⟨r4, r9, (by intro q h1 h2; simp only [Value.ownBlock, Option.some.injEq] at h1 h2; omega), hb9⟩) _
                · skip
                  go_simp
                  have n8 := Blk.new X1 3 #[.int .i64 x.hi]
                  have hbel := (Below.refl X1.heap.size X1).alloc (Nat.le_refl _) (.cells #[.int .i64 x.hi] 3)
                  have szB : X1.heap.size < (X1.alloc (.cells #[.int .i64 x.hi] 3)).heap.size := by rw [World.size_alloc]; omega
                  generalize X1.alloc (.cells #[.int .i64 x.hi] 3) = X5 at *
                  have szX5 : X1.heap.size < X5.heap.size := szB
                  clear szB
                  try replace n3 := n3.below hbel
                  try replace n8 := n8.below hbel
                  try replace rv := ownsRow_below rv hbel
                  try replace ru := ownsRow_below ru hbel
                  try replace r4 := ownsRow_below r4 hbel
                  replace k6 := k6.below hbel
                  replace hb9 := hb9.trans (hbel.mono (Nat.le_trans hb.size sbX1))
                  clear hbel
                  have sbX5 := Nat.le_trans sbX1 (Nat.le_of_lt szX5)
                  refine hK _ _ ⟨k6.cell, trivial⟩ ?_
                  clear hK K
                  try simp only [Act.put, List.setIfInBounds_toArray, List.set_cons_zero, List.set_cons_succ]
                  have hg8 : wq.heap.size ≤ X1.heap.size := sbX1
                  generalize hge8 : X1.heap.size = g8 at n8 hg8
                  refine held_one (i := 4) (by kernel_rfl) rfl rfl (fun K hK => ?_)
                  refine wp_append_lies _ _ _ 36 (by rfl) w.heap.size 3 ii (.int .i64 0) 1 8 Tryz.underlying36 iih ii0 ii1 ii2 rfl (by omega) u2 k ((loL (bl.take k)).flatMap ivs) (by rfl) rv ⟨g3, 0, none⟩ 1 1 [.int .i64 x.lo] (by rfl) rfl (World.news_of_block (cs := #[.int .i64 x.lo]) n3) (by simp [Value.oneCell']) (by omega) hbig1.out hbig2.out (Nat.le_trans hb.size sbX5) X5.heap.size rfl ?_
                  intro b4 c4 X6 r4 hgrow hlies4 hlt4
                  have hbx : Below w.heap.size X5 X6 := ⟨hgrow.os, hgrow.tape, hgrow.output, hgrow.size, fun b hb2 => hgrow.block b (Nat.lt_of_lt_of_le hb2 (Nat.le_trans hb.size sbX5)) (fun e => by have := hvx _ e.symm; omega)⟩
                  have sbX6 := Nat.le_trans sbX5 hgrow.size
                  replace ru := ru.kept hgrow (by
                    by_cases h0 : u3.ownBlock = none
                    · exact .inl h0
                    · obtain ⟨q, hq⟩ := Option.ne_none_iff_exists'.1 h0
                      exact .inr (fun e => hvu q (by rw [← e]; exact hq) hq))
                  try replace n8 := n8.grown hgrow (fun e => by have := hvx _ e.symm; omega)
                  replace k6 := k6.grown hgrow (fun e => by have := hvx _ e.symm; omega)
                  have hd4 : u3.ownBlock ≠ some b4 := fun e => by
                    rcases hlies4 with h | h
                    · exact hvu _ h e
                    · have := hux _ e; omega
                  replace hb9 := hb9.trans hbx
                  clear hbx hgrow
                  refine hK _ _ ⟨k6.cell, trivial⟩ ?_
                  clear hK K
                  try simp only [Act.put, List.setIfInBounds_toArray, List.set_cons_zero, List.set_cons_succ]
                  refine held_one (i := 9) (by kernel_rfl) rfl rfl (fun K hK => ?_)
                  refine wp_append_lies _ _ _ 36 (by rfl) w.heap.size 3 ii (.int .i64 0) 1 8 Tryz.underlying36 iih ii0 ii1 ii2 rfl (by omega) u3 k ((hiL (bl.take k)).flatMap ivs) (by rfl) ru ⟨g8, 0, none⟩ 1 1 [.int .i64 x.hi] (by rfl) rfl (World.news_of_block (cs := #[.int .i64 x.hi]) n8) (by simp [Value.oneCell']) (by omega) hbig1.out hbig2.out (Nat.le_trans hb.size sbX6) X6.heap.size rfl ?_
                  intro b9 c9 X7 r9 hgrow hlies9 hlt9
                  have hbx : Below w.heap.size X6 X7 := ⟨hgrow.os, hgrow.tape, hgrow.output, hgrow.size, fun b hb2 => hgrow.block b (Nat.lt_of_lt_of_le hb2 (Nat.le_trans hb.size sbX6)) (fun e => by have := hux _ e.symm; omega)⟩
                  have sbX7 := Nat.le_trans sbX6 hgrow.size
                  have hlt4b := r4.lt b4 rfl
                  have hd9 : b4 ≠ b9 := fun e => by
                    rcases hlies9 with h | h
                    · exact hd4 (by rw [e]; exact h)
                    · omega
                  replace r4 := r4.kept hgrow (.inr (fun e => hd4 (by rw [← e]; rfl)))
                  replace k6 := k6.grown hgrow (fun e => by have := hux _ e.symm; omega)
                  replace hb9 := hb9.trans hbx
                  clear hbx hgrow
                  refine hK _ _ ⟨k6.cell, trivial⟩ ?_
                  clear hK K
                  try simp only [Act.put, List.setIfInBounds_toArray, List.set_cons_zero, List.set_cons_succ]
                  have hS : (fun w' : World => (∀ j, w'.cell? ⟨g6, j, none⟩ = #[Value.int .i64 x.lo, .int .i64 x.hi][j]?) ∧ True) _ := ⟨k6.cell, trivial⟩
                  refine held_take (i := 10) (v := ?_) 2 rfl rfl (by kernel_rfl) (by kernel_rfl) (by kernel_rfl) (fun _ _ _ h => h) (Or.inl ⟨by rfl, ?_⟩) hS ?_
                  rotate_left 1
                  · intro w' hSw
                    try dsimp only at hSw
                    obtain ⟨z0, z1⟩ := hSw
                    go_simp
                    all_goals with_reducible rfl
                  try simp only [Act.put, List.setIfInBounds_toArray, List.set_cons_zero, List.set_cons_succ]
                  refine held_take (i := 11) (v := ?_) 3 rfl rfl (by kernel_rfl) (by kernel_rfl) (by kernel_rfl) (fun _ _ _ h => h) (Or.inl ⟨by rfl, ?_⟩) hS ?_
                  rotate_left 1
                  · intro w' hSw
                    try dsimp only at hSw
                    obtain ⟨z0, z1⟩ := hSw
                    go_simp
                    all_goals with_reducible rfl
                  try simp only [Act.put, List.setIfInBounds_toArray, List.set_cons_zero, List.set_cons_succ]
                  refine wpAnyH_done (by kernel_rfl) (hrest (_, _, _, _) _ ⟨r4, r9, (by intro q h1 h2; simp only [Value.ownBlock, Option.some.injEq] at h1 h2; omega), hb9⟩) _
              · skip
                go_simp
                have n8 := Blk.new wd 3 #[.int .i64 x.hi]
                have hbel := (Below.refl wd.heap.size wd).alloc (Nat.le_refl _) (.cells #[.int .i64 x.hi] 3)
                have szB : wd.heap.size < (wd.alloc (.cells #[.int .i64 x.hi] 3)).heap.size := by rw [World.size_alloc]; omega
                generalize wd.alloc (.cells #[.int .i64 x.hi] 3) = X8 at *
                have szX8 : wd.heap.size < X8.heap.size := szB
                clear szB
                try replace n3 := n3.below hbel
                try replace n8 := n8.below hbel
                try replace rv := ownsRow_below rv hbel
                try replace ru := ownsRow_below ru hbel
                try replace r4 := ownsRow_below r4 hbel
                replace k6 := k6.below hbel
                replace hb9 := hb9.trans (hbel.mono (Nat.le_trans hb.size sbwd))
                clear hbel
                have sbX8 := Nat.le_trans sbwd (Nat.le_of_lt szX8)
                refine hK _ _ ⟨k6.cell, trivial⟩ ?_
                clear hK K
                try simp only [Act.put, List.setIfInBounds_toArray, List.set_cons_zero, List.set_cons_succ]
                have hg8 : wq.heap.size ≤ wd.heap.size := sbwd
                generalize hge8 : wd.heap.size = g8 at n8 hg8
                refine held_one (i := 3) (by kernel_rfl) rfl rfl (fun K hK => ?_)
                go_simp
                have n3 := Blk.new X8 3 #[.int .i64 x.lo]
                have hbel := (Below.refl X8.heap.size X8).alloc (Nat.le_refl _) (.cells #[.int .i64 x.lo] 3)
                have szB : X8.heap.size < (X8.alloc (.cells #[.int .i64 x.lo] 3)).heap.size := by rw [World.size_alloc]; omega
                generalize X8.alloc (.cells #[.int .i64 x.lo] 3) = X9 at *
                have szX9 : X8.heap.size < X9.heap.size := szB
                clear szB
                try replace n3 := n3.below hbel
                try replace n8 := n8.below hbel
                try replace rv := ownsRow_below rv hbel
                try replace ru := ownsRow_below ru hbel
                try replace r4 := ownsRow_below r4 hbel
                replace k6 := k6.below hbel
                replace hb9 := hb9.trans (hbel.mono (Nat.le_trans hb.size sbX8))
                clear hbel
                have sbX9 := Nat.le_trans sbX8 (Nat.le_of_lt szX9)
                refine hK _ _ ⟨k6.cell, trivial⟩ ?_
                clear hK K
                try simp only [Act.put, List.setIfInBounds_toArray, List.set_cons_zero, List.set_cons_succ]
                have hg3 : wq.heap.size ≤ X8.heap.size := sbX8
                generalize hge3 : X8.heap.size = g3 at n3 hg3
                refine held_one (i := 4) (by kernel_rfl) rfl rfl (fun K hK => ?_)
                refine wp_append_lies _ _ _ 36 (by rfl) w.heap.size 3 ii (.int .i64 0) 1 8 Tryz.underlying36 iih ii0 ii1 ii2 rfl (by omega) u2 k ((loL (bl.take k)).flatMap ivs) (by rfl) rv ⟨g3, 0, none⟩ 1 1 [.int .i64 x.lo] (by rfl) rfl (World.news_of_block (cs := #[.int .i64 x.lo]) n3) (by simp [Value.oneCell']) (by omega) hbig1.out hbig2.out (Nat.le_trans hb.size sbX9) X9.heap.size rfl ?_
                intro b4 c4 X10 r4 hgrow hlies4 hlt4
                have hbx : Below w.heap.size X9 X10 := ⟨hgrow.os, hgrow.tape, hgrow.output, hgrow.size, fun b hb2 => hgrow.block b (Nat.lt_of_lt_of_le hb2 (Nat.le_trans hb.size sbX9)) (fun e => by have := hvx _ e.symm; omega)⟩
                have sbX10 := Nat.le_trans sbX9 hgrow.size
                replace ru := ru.kept hgrow (by
                  by_cases h0 : u3.ownBlock = none
                  · exact .inl h0
                  · obtain ⟨q, hq⟩ := Option.ne_none_iff_exists'.1 h0
                    exact .inr (fun e => hvu q (by rw [← e]; exact hq) hq))
                try replace n8 := n8.grown hgrow (fun e => by have := hvx _ e.symm; omega)
                replace k6 := k6.grown hgrow (fun e => by have := hvx _ e.symm; omega)
                have hd4 : u3.ownBlock ≠ some b4 := fun e => by
                  rcases hlies4 with h | h
                  · exact hvu _ h e
                  · have := hux _ e; omega
                replace hb9 := hb9.trans hbx
                clear hbx hgrow
                refine hK _ _ ⟨k6.cell, trivial⟩ ?_
                clear hK K
                try simp only [Act.put, List.setIfInBounds_toArray, List.set_cons_zero, List.set_cons_succ]
                refine held_one (i := 9) (by kernel_rfl) rfl rfl (fun K hK => ?_)
                refine wp_append_lies _ _ _ 36 (by rfl) w.heap.size 3 ii (.int .i64 0) 1 8 Tryz.underlying36 iih ii0 ii1 ii2 rfl (by omega) u3 k ((hiL (bl.take k)).flatMap ivs) (by rfl) ru ⟨g8, 0, none⟩ 1 1 [.int .i64 x.hi] (by rfl) rfl (World.news_of_block (cs := #[.int .i64 x.hi]) n8) (by simp [Value.oneCell']) (by omega) hbig1.out hbig2.out (Nat.le_trans hb.size sbX10) X10.heap.size rfl ?_
                intro b9 c9 X11 r9 hgrow hlies9 hlt9
                have hbx : Below w.heap.size X10 X11 := ⟨hgrow.os, hgrow.tape, hgrow.output, hgrow.size, fun b hb2 => hgrow.block b (Nat.lt_of_lt_of_le hb2 (Nat.le_trans hb.size sbX10)) (fun e => by have := hux _ e.symm; omega)⟩
                have sbX11 := Nat.le_trans sbX10 hgrow.size
                have hlt4b := r4.lt b4 rfl
                have hd9 : b4 ≠ b9 := fun e => by
                  rcases hlies9 with h | h
                  · exact hd4 (by rw [e]; exact h)
                  · omega
                replace r4 := r4.kept hgrow (.inr (fun e => hd4 (by rw [← e]; rfl)))
                replace k6 := k6.grown hgrow (fun e => by have := hux _ e.symm; omega)
                replace hb9 := hb9.trans hbx
                clear hbx hgrow
                refine hK _ _ ⟨k6.cell, trivial⟩ ?_
                clear hK K
                try simp only [Act.put, List.setIfInBounds_toArray, List.set_cons_zero, List.set_cons_succ]
                have hS : (fun w' : World => (∀ j, w'.cell? ⟨g6, j, none⟩ = #[Value.int .i64 x.lo, .int .i64 x.hi][j]?) ∧ True) _ := ⟨k6.cell, trivial⟩
                refine held_take (i := 10) (v := ?_) 2 rfl rfl (by kernel_rfl) (by kernel_rfl) (by kernel_rfl) (fun _ _ _ h => h) (Or.inl ⟨by rfl, ?_⟩) hS ?_
                rotate_left 1
                · intro w' hSw
                  try dsimp only at hSw
                  obtain ⟨z0, z1⟩ := hSw
                  go_simp
                  all_goals with_reducible rfl
                try simp only [Act.put, List.setIfInBounds_toArray, List.set_cons_zero, List.set_cons_succ]
                refine held_take (i := 11) (v := ?_) 3 rfl rfl (by kernel_rfl) (by kernel_rfl) (by kernel_rfl) (fun _ _ _ h => h) (Or.inl ⟨by rfl, ?_⟩) hS ?_
                rotate_left 1
                · intro w' hSw
                  try dsimp only at hSw
                  obtain ⟨z0, z1⟩ := hSw
                  go_simp
                  all_goals with_reducible rfl
                try simp only [Act.put, List.setIfInBounds_toArray, List.set_cons_zero, List.set_cons_succ]
                refine wpAnyH_done (by kernel_rfl) (hrest (_, _, _, _) _ ⟨r4, r9, (by intro q h1 h2; simp only [Value.ownBlock, Option.some.injEq] at h1 h2; omega), hb9⟩) _
        · have h3 := fun W => sWithin_no q1 W
          have hno := Lib.hid (okDists_no hx.out (show okDist x = false from decide_eq_false (by omega)))
          replace q1 := Lib.hid q1
          obtain ⟨c6, f6, l6⟩ := k6.rules
          go_wp2_with fail
          refine (h3 _).mono ?_
          rintro e w' ⟨rfl, rfl⟩
          go_wp2_with fail
          go_ret3
          exact RetEv.err hno.out (by omega) (hb.trans (hbel.mono hb.size))
      · obtain rfl : n = k := by omega
        have hbn : bl.take n = bl := List.take_of_length_le (by rw [hl.out]; exact Nat.le_refl _)
        rw [hbn] at hall rv ru
        have hdist : Hid (okDists bl = true) := by show _ = _; unfold okDists; rw [hall.out, decide_eq_true (by rw [hl.out]; omega)]; rfl
        rcases rv.2 with ⟨-, h⟩ | ⟨g1, cap1, cur1, rfl, hg1, -⟩
        · omega
        rcases ru.2 with ⟨-, h⟩ | ⟨g2, cap2, cur2, rfl, hg2, -⟩
        · omega
        have hne : g1 ≠ g2 := fun e => hvu g1 rfl (by rw [e]; rfl)
        have hlb := fun t => lowT_bd hall.out t
        have hhb := fun t => highT_bd hall.out t
        have hxb := fun t => okDists_bd hall.out t
        replace hlb := Lib.hid hlb
        replace hhb := Lib.hid hhb
        replace hxb := Lib.hid hxb
        have rv0 : wr.ownsRow w.heap.size 3 1 (.slice (some ⟨g1, 0, none⟩) n cap1) n ((evLo bl 1).flatMap ivs) := by rw [evLo_one (by rw [hl.out]; omega)]; exact rv
        replace hne := Lib.hid hne
        replace hvu := Lib.hid hvu
        clear rv hbn
        go_wp2_with fail
        go_loopw [7] (fun i wr => ∃ j : Nat, i = .int .i64 ((j : Int) + 1) ∧ j + 1 ≤ n ∧ wr.ownsRow w.heap.size 3 1 (.slice (some ⟨g1, 0, none⟩) n cap1) n ((evLo bl (j + 1)).flatMap ivs) ∧ wr.ownsRow w.heap.size 3 1 (.slice (some ⟨g2, 0, none⟩) n cap2) n ((hiL bl).flatMap ivs) ∧ Below w.heap.size w wr) (fun i wr => n - (intOf i).toNat)
        case atStart => exact ⟨0, rfl, by omega, rv0, ru, hb⟩
        case round =>
          clear rv0 ru hb
          obtain ⟨j, rfl, hj, rv, ru, hb⟩ := hrel
          by_cases hlt : j + 1 < n
          · have hi1 : j + 1 < bl.length := by rw [hl.out]; exact hlt
            have hsl := SlAt.ownQ (enc := ivs) rv (by omega) (evLo bl (j + 1)) rfl (fun _ => rfl) (by rw [evLo_len, hl.out])
            obtain ⟨b9, o9, hA9, -, hb9, x0⟩ := hsl.int (evLo_at hi1)
            simp only [Option.some.injEq, Addr.mk.injEq, and_true] at hA9
            obtain ⟨rfl, rfl⟩ := hA9
            obtain ⟨b8, o8, hA8, -, -, x1⟩ := hsl.int (evLo_bef hi1)
            simp only [Option.some.injEq, Addr.mk.injEq, and_true] at hA8
            obtain ⟨rfl, rfl⟩ := hA8
            rw [Nat.zero_add] at x0 x1
            have rvd : wr.drew.ownsRow w.heap.size 3 1 (.slice (some ⟨g1, 0, none⟩) n cap1) n ((evLo bl (j + 1)).flatMap ivs) := rv
            have rud : wr.drew.ownsRow w.heap.size 3 1 (.slice (some ⟨g2, 0, none⟩) n cap2) n ((hiL bl).flatMap ivs) := ru
            have hbd : Below w.heap.size w wr.drew := hb.drew
            have fr := rvd.frozenAt (j + 1)
            have x0d : wr.drew.cell? ⟨g1, j + 1, none⟩ = _ := x0
            have hnew : max (bl.getD (j + 1) ⟨0, 0⟩).lo (lowT bl j) = lowT bl (j + 1) := rfl
            have rv3 := Lib.hid ((rvd.stored (j + 1) (.int .i64 (lowT bl (j + 1)))).1)
            rw [ints_set (evLo_at hi1), evLo_set hi1] at rv3
            have ru3 := Lib.hid (ownsRow_setCell rud (p := ⟨g1, j + 1, none⟩) (fun e => by simp only [Value.ownBlock, Option.some.injEq] at e; exact hne.out e.symm) (.int .i64 (lowT bl (j + 1))))
            have hbz := Lib.hid (hbd.setCell (p := ⟨g1, j + 1, none⟩) hg1 (.int .i64 (lowT bl (j + 1))))
            have hk0 : (0 : Int) ≤ (j : Int) + 1 := by omega
            have hk1 : (j : Int) + 1 < (n : Int) := by omega
            have hk2 : (0 : Int) ≤ (j : Int) := by omega
            have hk3 : (j : Int) < (n : Int) := by omega
            have hk4 : ((j : Int) + 1).toNat = j + 1 := by omega
            have t1 := IntWalk.i64_in ((j : Int)) (by omega)
            have t2 := IntWalk.i64_in ((j : Int) + 1 + 1) (by omega)
            have hmax := max2_int
            generalize (bl.getD (j + 1) ⟨0, 0⟩).lo = xa at *
            generalize lowT bl (j + 1) = xb at *
            generalize lowT bl j = xc at *
            clear hsl hi1 rv ru hb rvd rud hbd
            go_wp2_with fail
            refine wp_region_still_tail 13 (by kernel_rfl) (by kernel_rfl) ?_
            simp only [List.take_succ_cons, List.take_zero, List.drop_succ_cons, List.drop_zero]
            (iterate 13 still_step)
            apply still_end
            change wpList _ _ _ _ _ wr.drew
            go_wp2_with fail
            go_roundw
            case rel => exact ⟨j + 1, by go_num, by omega, rv3.out, ru3.out, hbz.out⟩
            case measure => simp [intOf]; omega
          · have hjn : j + 1 = n := by omega
            rw [hjn, evLo_all hl.out] at rv
            have t1 : IntKind.i64.wrap ((n : Int) - 2) = (j : Int) - 1 := by rw [IntWalk.i64_in _ (by omega)]; omega
            have ru0 : wr.ownsRow w.heap.size 3 1 (.slice (some ⟨g2, 0, none⟩) n cap2) n ((evHi bl j).flatMap ivs) := by rw [evHi_last (by rw [hl.out]; exact hjn)]; exact ru
            have hjn := Lib.hid hjn
            clear ru
            go_wp2_with fail
            go_loopw [8] (fun i wr => ∃ t : Nat, i = .int .i64 ((t : Int) - 1) ∧ t + 1 ≤ n ∧ wr.ownsRow w.heap.size 3 1 (.slice (some ⟨g1, 0, none⟩) n cap1) n ((lowsL bl).flatMap ivs) ∧ wr.ownsRow w.heap.size 3 1 (.slice (some ⟨g2, 0, none⟩) n cap2) n ((evHi bl t).flatMap ivs) ∧ Below w.heap.size w wr) (fun i wr => (intOf i + 1).toNat)
            case atStart => exact ⟨j, congrArg (Value.int .i64) (by omega), by omega, rv, ru0, hb⟩
            case round =>
              clear rv ru0 hb t1
              obtain ⟨t, rfl, ht, rv, ru, hb⟩ := hrel
              cases t with
              | zero =>
                rw [evHi_zero] at ru
                have hL := SlAt.ownQ (enc := ivs) rv (by omega) (lowsL bl) rfl (fun _ => rfl) (by rw [lowsL_len, hl.out])
                have hH := SlAt.ownQ (enc := ivs) ru (by omega) (highsL bl) rfl (fun _ => rfl) (by rw [highsL_len, hl.out])
                clear rv ru
                have hz : ¬ (((0 : Nat) : Int) - 1 ≥ 0) := by omega
                replace hb := Lib.hid hb
                go_wp2_with fail
                obtain ⟨we, hwe⟩ : ∃ x, x = wr := ⟨_, rfl⟩
                rw [← hwe] at hL hH hb
                rw [← hwe]
                clear hwe
                go_loopw [2, 3, 83] (fun v u i wr => ∃ s : Nat, v = .slice (some ⟨g1, 0, none⟩) n cap1 ∧ u = .slice (some ⟨g2, 0, none⟩) n cap2 ∧ i = .int .i64 (s : Int) ∧ s ≤ n ∧ (∀ q, q < s → lowT bl q ≤ highT bl q) ∧ Below we.heap.size we wr) (fun v u i wr => n - (intOf i).toNat)
                case atStart => exact ⟨0, rfl, rfl, rfl, Nat.zero_le _, (fun q h => absurd h (Nat.not_lt_zero _)), Below.refl _ _⟩
                case round =>
                  obtain ⟨s, rfl, rfl, rfl, hs6, hle, hb6⟩ := hrel
                  replace hle := Lib.hid hle
                  by_cases hlt6 : s < n
                  · have hk0 : (0 : Int) ≤ (s : Int) := by omega
                    have hk1 : (s : Int) < (n : Int) := by omega
                    obtain ⟨b9, o9, hA9, -, hb9, x0⟩ := (hL.below hb6).int (lowsL_at bl (by rw [hl.out]; exact hlt6))
                    simp only [Option.some.injEq, Addr.mk.injEq, and_true] at hA9
                    obtain ⟨rfl, rfl⟩ := hA9
                    obtain ⟨b8, o8, hA8, -, hb8, x1⟩ := (hH.below hb6).int (highsL_at bl (by rw [hl.out]; exact hlt6))
                    simp only [Option.some.injEq, Addr.mk.injEq, and_true] at hA8
                    obtain ⟨rfl, rfl⟩ := hA8
                    rw [Nat.zero_add] at x0 x1
                    have hnx : Hid (lowT bl s ≤ highT bl s → ∀ q, q < s + 1 → lowT bl q ≤ highT bl q) := by
                      show _ → _
                      intro h q hq
                      by_cases e : q = s
                      · rw [e]; exact h
                      · exact hle.out q (by omega)
                    have hbad : Hid (¬ lowT bl s ≤ highT bl s → errE bl = 4) := by
                      show _ → _
                      intro h
                      unfold errE
                      rw [if_pos hdist.out, if_neg]
                      intro hk
                      unfold okEven at hk
                      exact h (of_decide_eq_true (List.all_eq_true.1 hk s (List.mem_range.2 (by rw [hl.out]; exact hlt6))))
                    generalize lowT bl s = xa at *
                    generalize highT bl s = xb at *
                    have hbq := fun n => below_drewN hb6 n
                    by_cases hc : xa > xb
                    · have hc2 : decide (xb < xa) = true := decide_eq_true hc
                      have herr := Lib.hid (hbad.out (by omega))
                      go_wp2_with fail
                      go_quiet (fail)
                      go_wp2_with fail
                      go_ret3
                      exact RetEv.err herr.out (by omega) (hb.out.trans ((hbq _).mono hb.out.size))
                    · have hc2 : decide (xb < xa) = false := decide_eq_false hc
                      have hnx2 := Lib.hid (hnx.out (by omega))
                      go_wp2_with fail
                      go_quiet (fail)
                      go_wp2_with fail
                      go_roundw
                      case rel => exact ⟨s + 1, rfl, rfl, by go_num, by omega, hnx2.out, hbq _⟩
                      case measure => simp [intOf]; omega
                  · have h0 : Hid (errE bl = 0) := by
                      show _ = _
                      unfold errE
                      rw [if_pos hdist.out, if_pos]
                      unfold okEven
                      exact List.all_eq_true.2 fun q hq => decide_eq_true (hle.out q (by have := List.mem_range.1 hq; rw [hl.out] at this; omega))
                    go_wp2_with fail
                    go_ret3
                    exact ⟨_, _, _, _, _, _, by rw [h0.out]; rfl, fun _ => ⟨hL.below hb6, hH.below hb6⟩, hb.out.trans (hb6.mono hb.out.size)⟩
              | succ t =>
                have hi1 : t + 1 < bl.length := by rw [hl.out]; omega
                have hsl := SlAt.ownQ (enc := ivs) ru (by omega) (evHi bl (t + 1)) rfl (fun _ => rfl) (by rw [evHi_len, hl.out])
                obtain ⟨b9, o9, hA9, -, hb9, x0⟩ := hsl.int (evHi_at hi1)
                simp only [Option.some.injEq, Addr.mk.injEq, and_true] at hA9
                obtain ⟨rfl, rfl⟩ := hA9
                obtain ⟨b8, o8, hA8, -, -, x1⟩ := hsl.int (evHi_next hi1)
                simp only [Option.some.injEq, Addr.mk.injEq, and_true] at hA8
                obtain ⟨rfl, rfl⟩ := hA8
                rw [Nat.zero_add] at x0 x1
                have rvd : wr.drew.ownsRow w.heap.size 3 1 (.slice (some ⟨g1, 0, none⟩) n cap1) n ((lowsL bl).flatMap ivs) := rv
                have rud : wr.drew.ownsRow w.heap.size 3 1 (.slice (some ⟨g2, 0, none⟩) n cap2) n ((evHi bl (t + 1)).flatMap ivs) := ru
                have hbd : Below w.heap.size w wr.drew := hb.drew
                have fr := rud.frozenAt t
                have x0d : wr.drew.cell? ⟨g2, t, none⟩ = _ := x0
                have hnew : min (bl.getD t ⟨0, 0⟩).hi (highT bl (t + 1)) = highT bl t := (highT_prev hi1).symm
                have ru3 := Lib.hid ((rud.stored t (.int .i64 (highT bl t))).1)
                rw [ints_set (evHi_at hi1), evHi_set hi1] at ru3
                have rv3 := Lib.hid (ownsRow_setCell rvd (p := ⟨g2, t, none⟩) (fun e => by simp only [Value.ownBlock, Option.some.injEq] at e; exact hne.out e) (.int .i64 (highT bl t)))
                have hbz := Lib.hid (hbd.setCell (p := ⟨g2, t, none⟩) hg2 (.int .i64 (highT bl t)))
                have hk0 : (0 : Int) ≤ (t : Int) := by omega
                have hk1 : (t : Int) < (n : Int) := by omega
                have hk2 : (0 : Int) ≤ (t : Int) + 1 := by omega
                have hk3 : (t : Int) + 1 < (n : Int) := by omega
                have hk4 : ((t : Int) + 1).toNat = t + 1 := by omega
                have hk5 : (((t + 1 : Nat) : Int) - 1) = (t : Int) := by omega
                rw [hk5]
                have t1 := IntWalk.i64_in ((t : Int) + 1) (by omega)
                have t2 := IntWalk.i64_in ((t : Int) - 1) (by omega)
                have hmin := min2_int
                generalize (bl.getD t ⟨0, 0⟩).hi = xa at *
                generalize highT bl (t + 1) = xc at *
                generalize highT bl t = xb at *
                clear hsl hi1 rv ru hb rvd rud hbd
                go_wp2_with fail
                refine wp_region_still_tail 13 (by kernel_rfl) (by kernel_rfl) ?_
                simp only [List.take_succ_cons, List.take_zero, List.drop_succ_cons, List.drop_zero]
                (iterate 13 still_step)
                apply still_end
                change wpList _ _ _ _ _ wr.drew
                go_wp2_with fail
                go_roundw
                case rel => exact ⟨t, rfl, by omega, rv3.out, ru3.out, hbz.out⟩
                case measure => simp [intOf]
  · have h2 := fun W => sWithin_no hr W
    have hv : Hid (errE bl = 53) := by
      show _ = _
      unfold errE okDists
      rw [decide_eq_false (by rw [hl.out]; omega)]; rfl
    replace hr := Lib.hid hr
    go_enter Tryz.func66, Tryz.ntmps66
    go_wp2_with fail
    refine (h2 _).mono ?_
    rintro e w' ⟨rfl, rfl⟩
    go_wp2_with fail
    go_ret3
    exact RetEv.err hv.out (by omega) (Below.refl _ _)
end Go.Proofs.YtfengddpfeneiaaGreat
