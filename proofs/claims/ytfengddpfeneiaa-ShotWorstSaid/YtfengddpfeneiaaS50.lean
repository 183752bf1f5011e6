/-
  Shots, walks: the look for the worst delays of the specification, which calls itself.
-/
import Derived.Test.YtfengddpfeneiaaS21
import Derived.Test.YtfengddpfeneiaaS43
import Derived.Test.YtfengddpfeneiaaS29
import Derived.Test.YtfengddpfeneiaaI5
namespace Go.Proofs.Ytfengddpfeneiaa
open Go.RowKit Go.Shelf
set_option linter.unusedSimpArgs false
set_option linter.unusedVariables false
attribute [local irreducible] wpStill

/-- The best of some delays that begin so. -/
def fD (a : Arr) (gs : List Gun) (l : List Int) (st : List Int × Int) : List Int × Int := ((allD gs).map (l ++ ·)).foldl (better a) st
theorem fD_nil (a : Arr) (l : List Int) (st : List Int × Int) : fD a [] l st = better a st l := by simp [fD, allD]
def fTo (a : Arr) (g : Gun) (gs : List Gun) (l : List Int) (st : List Int × Int) (k : Nat) : List Int × Int := (List.range k).foldl (fun s (j : Nat) => fD a gs (l ++ [g.late.lo + (j : Int)]) s) st
theorem fTo_succ (a : Arr) (g : Gun) (gs : List Gun) (l : List Int) (st : List Int × Int) (k : Nat) : fTo a g gs l st (k + 1) = fD a gs (l ++ [g.late.lo + (k : Int)]) (fTo a g gs l st k) := by
  unfold fTo
  rw [List.range_succ, List.foldl_append]
  rfl
theorem fD_cons (a : Arr) (g : Gun) (gs : List Gun) (l : List Int) (st : List Int × Int) : fD a (g :: gs) l st = fTo a g gs l st (widS g) := by
  unfold fD fTo
  rw [allD, List.map_flatMap, List.foldl_flatMap]
  congr 1
  funext s j
  unfold fD
  rw [List.map_map]
  congr 1
  refine List.map_congr_left fun r _ => ?_
  simp
theorem fD_all (a : Arr) : fD a a.gs [] ([], -1) = worstS a := by
  unfold fD worstS
  simp
theorem better_pos {a : Arr} (h : okArr a = true) {st : List Int × Int} (l : List Int) (hs : -1 ≤ st.2 ∧ st.2 ≤ 2000000000) : 0 ≤ (better a st l).2 ∧ (better a st l).2 ≤ 2000000000 := by
  have := misS_bd h l []
  unfold better
  split
  · dsimp only; omega
  · omega
/-- What the look has come to. -/
def LkAt (W : World) (gx B0 : Nat) (S G : Option Addr) (ns cs ng cg : Nat) (st : List Int × Int) : Prop :=
  (st = ([], -1) ∧ Blk W gx 122 #[.slice S ns cs, .slice G ng cg, .slice none 0 0, .int .i64 0]) ∨
  (0 ≤ st.2 ∧ st.2 ≤ 2000000000 ∧ ∃ g d, Blk W gx 122 #[.slice S ns cs, .slice G ng cg, .slice (some ⟨g, 0, none⟩) ng d, .int .i64 st.2] ∧ SlAt W B0 1 ivs (some ⟨g, 0, none⟩) ng d st.1 ∧ g ≠ gx)
theorem LkAt.below {W W' : World} {gx B0 : Nat} {S G : Option Addr} {ns cs ng cg : Nat} {st : List Int × Int} (h : LkAt W gx B0 S G ns cs ng cg st) (hb : Below W.heap.size W W') : LkAt W' gx B0 S G ns cs ng cg st := by
  rcases h with ⟨h, k⟩ | ⟨h1, h2, g, d, k, h3, h4⟩
  · exact .inl ⟨h, k.below hb⟩
  · exact .inr ⟨h1, h2, g, d, k.below hb, h3.below hb, h4⟩
theorem LkAt.blk {W : World} {gx B0 : Nat} {S G : Option Addr} {ns cs ng cg : Nat} {st : List Int × Int} (h : LkAt W gx B0 S G ns cs ng cg st) : ∃ (v : Value) (q : Int), Blk W gx 122 #[.slice S ns cs, .slice G ng cg, v, .int .i64 q] := by
  rcases h with ⟨-, k⟩ | ⟨-, -, g, d, k, -⟩
  · exact ⟨_, _, k⟩
  · exact ⟨_, _, k⟩
theorem LkAt.bd {W : World} {gx B0 : Nat} {S G : Option Addr} {ns cs ng cg : Nat} {st : List Int × Int} (h : LkAt W gx B0 S G ns cs ng cg st) : -1 ≤ st.2 ∧ st.2 ≤ 2000000000 := by
  rcases h with ⟨rfl, -⟩ | ⟨h1, h2, -⟩
  · exact ⟨by decide, by decide⟩
  · exact ⟨by omega, h2⟩
def apartB (gx : Nat) (A : Option Addr) : Prop := ∀ b o, A = some ⟨b, o, none⟩ → b ≠ gx
def TryPost (a : Arr) (gx B0 : Nat) (S G : Option Addr) (ns cs ng cg : Nat) (st : List Int × Int) (w : World) (e : Ending) (w' : World) : Prop :=
  (∃ v, e = .returned v) ∧ LkAt w' gx B0 S G ns cs ng cg st ∧ SrFr gx none w w'
def TryFor (a : Arr) (gx B0 : Nat) (S G : Option Addr) (ns cs ng cg : Nat) (m : Nat) : Prop :=
  ∀ (l : List Int) (D : Option Addr) (nd cd : Nat) (st : List Int × Int) (w : World), SlAt w 0 1 ivs S ns cs a.sh → SlAt w 0 4 Gun.cells G ng cg a.gs → LkAt w gx B0 S G ns cs ng cg st → SlAt w 0 1 ivs D nd cd l → isDel l → nd + m = ng → B0 ≤ w.heap.size → gx < B0 → (0 < nd → apartB gx D) →
    Calls Try.prog 81 #[.pointer (some ⟨gx, 0, none⟩), .slice D nd cd] w (TryPost a gx B0 S G ns cs ng cg (fD a (a.gs.drop nd) l st) w)
theorem look_set {W : World} {gx B0 g9 ng cap : Nat} {S G : Option Addr} {ns cs cg : Nat} {v : Value} {q ms : Int} {l : List Int} (k : Blk W gx 122 #[.slice S ns cs, .slice G ng cg, v, .int .i64 q]) (hS : SlAt W B0 1 ivs (some ⟨g9, 0, none⟩) ng cap l) (hn : 0 < ng) (h9 : g9 ≠ gx) (h0 : 0 ≤ ms) (h1 : ms ≤ 2000000000) :
    LkAt ((W.setCell ⟨gx, 2, none⟩ (.slice (some ⟨g9, 0, none⟩) ng cap)).setCell ⟨gx, 3, none⟩ (.int .i64 ms)) gx B0 S G ns cs ng cg (l, ms) := by
  have kz := (k.set_ 2 (.slice (some ⟨g9, 0, none⟩) ng cap)).set_ 3 (.int .i64 ms)
  simp only [List.setIfInBounds_toArray, List.set_cons_zero, List.set_cons_succ] at kz
  refine .inr ⟨h0, h1, g9, cap, kz, hS.keepB (by simp [World.setCell]) (fun b o e => ?_), h9⟩
  simp only [Option.some.injEq, Addr.mk.injEq, and_true] at e
  obtain ⟨rfl, rfl⟩ := e
  exact (Below.heap_setCell _ _ _ _ h9).trans (Below.heap_setCell _ _ _ _ h9)
theorem look_fr {W0 W : World} {gx : Nat} {u v : Value} (h : Below W0.heap.size W0 W) : SrFr gx none W0 ((W.setCell ⟨gx, 2, none⟩ u).setCell ⟨gx, 3, none⟩ v) := by
  refine ⟨by simp [World.setCell, h.os], by simp only [World.setCell]; exact h.tape, by simp [World.setCell, h.output], by have := h.size; simp [World.setCell]; omega, fun k hk hg _ => ?_⟩
  exact (Below.heap_setCell _ _ _ _ hg).trans ((Below.heap_setCell _ _ _ _ hg).trans (h.block k hk))
set_option maxRecDepth 100000 in
set_option maxHeartbeats 4000000 in
theorem try_zero (a : Arr) (ha : okArr a = true) (gx B0 : Nat) (S G : Option Addr) (ns cs ng cg : Nat) : TryFor a gx B0 S G ns cs ng cg 0 := by
  intro l D nd cd st w hS hG hLk hD hin hnd hB hgB hDx
  have hgl := hG.len
  have har := okArr_len ha
  unfold arrLen at har
  rw [hgl] at har
  obtain ⟨-, -, r3, r4⟩ := har
  obtain rfl : nd = ng := by omega
  have hfd : fD a (a.gs.drop nd) l st = better a st l := by rw [List.drop_of_length_le (by omega), fD_nil]
  have hmi := fun W h1 h2 h3 => Rmisfit_any a ha l [] hin S G D none ns cs nd cg cd 0 0 W h1 h2 h3 (SlAt.nil _ _ _ _)
  have hOw := fun W h => OwnQ_any l D nd cd 0 W (by omega) h
  have hmb := misS_bd ha l []
  rw [hfd]
  clear hfd hnd hgl
  unfold TryPost
  have hgw : gx < w.heap.size := by omega
  rcases hLk with ⟨rfl, kx⟩ | ⟨h0, h1, g, d, kx, hV, hgx⟩
  · have hnil := fun W => Lib.run_eql_slice_nil (P := Try.prog) W 22 3 none 0 0 0 0 Try.underlying22
    have hfin : Hid (better a ([], -1) l = (l, misS a l [])) := by show _ = _; unfold better; rw [if_pos (by dsimp only; omega)]
    obtain ⟨cx, fx, lx⟩ := kx.rules
    go_enter Try.func81, Try.ntmps81
    go_wp2_with fail
    refine (hmi _ hS hG hD).mono ?_
    rintro e W ⟨rfl, hb⟩
    clear hmi hS hG cx fx lx
    replace kx := kx.below hb
    replace hD := hD.below hb
    replace hb0 := hb
    clear hb
    generalize hms : misS a l [] = ms at *
    obtain ⟨cx, fx, lx⟩ := kx.rules
    obtain ⟨hm0, hm1⟩ := hmb
    replace hms := Lib.hid hms
    go_wp2_with fail
    refine (hOw _ hD).mono ?_
    rintro e W2 ⟨v, rfl, hv, hb⟩
    clear hOw cx fx lx
    rcases hv.2 with ⟨-, h⟩ | ⟨g9, cap, cur, rfl, hg9, -⟩
    · omega
    have hSn := SlAt.ownQ (enc := ivs) hv (by omega) l (flatMap_ivs _).symm (fun _ => rfl) hD.len
    have hg9b := hv.lt g9 rfl
    have hsz := hb0.size
    replace kx := kx.below hb
    replace hb0 := hb0.trans (hb.mono hb0.size)
    clear hb hD hv
    have hz1 := Lib.hid (look_set kx (hSn.mono (show B0 ≤ W.heap.size by omega)) (by omega) (by omega) hm0 hm1)
    have hz2 := Lib.hid (look_fr (gx := gx) (u := .slice (some ⟨g9, 0, none⟩) nd cap) (v := .int .i64 ms) hb0)
    obtain ⟨cx, fx, lx⟩ := kx.rules
    clear hSn
    go_wp2_with fail
    refine bodyPost_ret (results_none rfl _ _ _) rfl ?_
    exact ⟨⟨_, rfl⟩, by rw [hfin.out]; exact hz1.out, hz2.out⟩
  · have hnil := fun W => Lib.run_eql_slice_nil (P := Try.prog) W 22 3 (some ⟨g, 0, none⟩) nd d 0 0 Try.underlying22
    obtain ⟨sl, sm⟩ := st
    dsimp only at h0 h1 hV kx
    by_cases hlt : sm < misS a l []
    · have hfin : Hid (better a (sl, sm) l = (l, misS a l [])) := by show _ = _; unfold better; rw [if_pos hlt]
      obtain ⟨cx, fx, lx⟩ := kx.rules
      go_enter Try.func81, Try.ntmps81
      go_wp2_with fail
      refine (hmi _ hS hG hD).mono ?_
      rintro e W ⟨rfl, hb⟩
      clear hmi hS hG cx fx lx
      replace kx := kx.below hb
      replace hD := hD.below hb
      replace hb0 := hb
      clear hb
      generalize hms : misS a l [] = ms at *
      obtain ⟨cx, fx, lx⟩ := kx.rules
      obtain ⟨hm0, hm1⟩ := hmb
      replace hms := Lib.hid hms
      go_wp2_with fail
      refine (hOw _ hD).mono ?_
      rintro e W2 ⟨v, rfl, hv, hb⟩
      clear hOw cx fx lx
      rcases hv.2 with ⟨-, h⟩ | ⟨g9, cap, cur, rfl, hg9, -⟩
      · omega
      have hSn := SlAt.ownQ (enc := ivs) hv (by omega) l (flatMap_ivs _).symm (fun _ => rfl) hD.len
      have hg9b := hv.lt g9 rfl
      have hsz := hb0.size
      replace kx := kx.below hb
      replace hb0 := hb0.trans (hb.mono hb0.size)
      clear hb hD hv
      have hz1 := Lib.hid (look_set kx (hSn.mono (show B0 ≤ W.heap.size by omega)) (by omega) (by omega) hm0 hm1)
      have hz2 := Lib.hid (look_fr (gx := gx) (u := .slice (some ⟨g9, 0, none⟩) nd cap) (v := .int .i64 ms) hb0)
      obtain ⟨cx, fx, lx⟩ := kx.rules
      clear hSn
      go_wp2_with fail
      refine bodyPost_ret (results_none rfl _ _ _) rfl ?_
      exact ⟨⟨_, rfl⟩, by rw [hfin.out]; exact hz1.out, hz2.out⟩
    · have hfin : Hid (better a (sl, sm) l = (sl, sm)) := by show _ = _; unfold better; rw [if_neg hlt]
      obtain ⟨cx, fx, lx⟩ := kx.rules
      go_enter Try.func81, Try.ntmps81
      go_wp2_with fail
      refine (hmi _ hS hG hD).mono ?_
      rintro e W ⟨rfl, hb⟩
      clear hmi hS hG cx fx lx
      replace kx := kx.below hb
      replace hD := hD.below hb
      replace hb0 := hb
      clear hb
      generalize hms : misS a l [] = ms at *
      obtain ⟨cx, fx, lx⟩ := kx.rules
      replace hV := hV.below hb0
      replace hms := Lib.hid hms
      have hle : ms ≤ sm := by omega
      go_wp2_with fail
      refine bodyPost_ret (results_none rfl _ _ _) rfl ?_
      exact ⟨⟨_, rfl⟩, by rw [hfin.out]; exact .inr ⟨h0, h1, g, d, kx, hV, hgx⟩, SrFr.of_below hb0⟩
set_option maxRecDepth 100000 in
set_option maxHeartbeats 4000000 in
theorem try_succ (a : Arr) (ha : okArr a = true) (gx B0 : Nat) (S G : Option Addr) (ns cs ng cg : Nat) (hxS : apartB gx S) (hxG : apartB gx G) (m : Nat) (hm : TryFor a gx B0 S G ns cs ng cg m) : TryFor a gx B0 S G ns cs ng cg (m + 1) := by
  intro l D nd cd st w hS hG hLk hD hin hnd hB hgB hDx
  have hgl := Lib.hid hG.len
  have har := okArr_len ha
  unfold arrLen at har
  rw [hgl.out] at har
  obtain ⟨-, -, r3, r4⟩ := har
  have hlt : nd < ng := by omega
  obtain ⟨x, hx⟩ := some_of_lt hgl.out hlt
  have hxo := okArr_gun ha (List.mem_of_getElem? hx)
  obtain ⟨-, -, -, -, x1, x2, x3⟩ := hxo
  have hdrop : a.gs.drop nd = x :: a.gs.drop (nd + 1) := by
    obtain ⟨h1, h2⟩ := List.getElem?_eq_some_iff.1 hx
    rw [List.drop_eq_getElem_cons h1, h2]
  obtain ⟨wn, hwn⟩ : ∃ wn, widS x = wn := ⟨_, rfl⟩
  have hwn2 : (wn : Int) = x.late.hi + 1 - x.late.lo := by have := (widS_pos x2).2; rw [hwn] at this; exact this
  have hfin : Hid (fD a (a.gs.drop nd) l st = fTo a x (a.gs.drop (nd + 1)) l st wn) := by show _ = _; rw [hdrop, fD_cons, hwn]
  have hOw := fun W h => OwnQ_any l D nd cd 0 W (by omega) h
  have hll := Lib.hid hD.len
  have hgw : gx < w.heap.size := by omega
  obtain ⟨lo, hlo⟩ : ∃ lo, x.late.lo = lo := ⟨_, rfl⟩
  obtain ⟨hi, hhi⟩ : ∃ hi, x.late.hi = hi := ⟨_, rfl⟩
  rw [hlo] at x1 x2 hwn2
  rw [hhi] at x2 x3 hwn2
  have hst := Lib.hid (fun k => fTo_succ a x (a.gs.drop (nd + 1)) l st k)
  rw [hlo] at hst
  have hst0 : Hid (fTo a x (a.gs.drop (nd + 1)) l st 0 = st) := Lib.hid rfl
  have hdel : ∀ v : Int, -16 ≤ v → v ≤ 16 → isDel (l ++ [v]) := by
    intro v h1 h2 k
    rw [List.getD_eq_getElem?_getD, List.getElem?_append]
    split
    · have := hin k
      rw [List.getD_eq_getElem?_getD] at this
      exact this
    · cases hk : k - l.length with
      | zero => simp; omega
      | succ q => simp
  unfold TryPost
  obtain ⟨bG, oG, hA, -, hbG, -, -, e2, e3⟩ := hG.gun hx
  rw [hlo] at e2
  rw [hhi] at e3
  have g1 : (nd = ng) = False := eq_false (by omega)
  have g2 : ((nd : Int) == (ng : Int)) = false := by rw [beq_eq_false_iff_ne]; omega
  obtain ⟨vx, qx, kx⟩ := hLk.blk
  obtain ⟨cx, fx, lx⟩ := kx.rules
  have n0 : (0 : Int) ≤ (nd : Int) := by omega
  have n1 : (nd : Int) < (ng : Int) := by omega
  obtain ⟨i0, hi0, hz0, hz1, hz2⟩ := info_parts Try.infoInt
  replace hA := Lib.hid hA
  have hAA := hA.out
  subst hAA
  replace hx := Lib.hid hx
  replace hdrop := Lib.hid hdrop
  replace hwn := Lib.hid hwn
  replace hlo := Lib.hid hlo
  replace hhi := Lib.hid hhi
  replace hnd := Lib.hid hnd
  replace hwn2 := Lib.hid hwn2
  generalize hgs : a.gs.drop (nd + 1) = gs at *
  replace hgs := Lib.hid hgs
  have kL := Blk.new w 62 #[.int .i64 lo, .int .i64 hi]
  have b1 : Below w.heap.size w (w.alloc (.cells #[.int .i64 lo, .int .i64 hi] 62)) := (Below.refl _ _).alloc (Nat.le_refl _) _
  go_enter Try.func81, Try.ntmps81
  go_wp2_with fail
  clear cx fx lx kx e2 e3
  have hS1 := hS.below b1
  have hG1 := hG.below b1
  have hD1 := hD.below b1
  have hLk1 := hLk.below b1
  have hzz1 : w.heap.size < (w.alloc (.cells #[.int .i64 lo, .int .i64 hi] 62)).heap.size := by simp
  have hwe : Hid (LkAt w gx B0 S _ ns cs ng cg st) := Lib.hid hLk
  clear hS hG hD hLk
  generalize w.alloc (.cells #[.int .i64 lo, .int .i64 hi] 62) = w1 at *
  go_loopw [6] (fun i wr => ∃ k : Nat, i = .int .i64 (lo + (k : Int)) ∧ k ≤ wn ∧ LkAt wr gx B0 S (some ⟨bG, oG, none⟩) ns cs ng cg (fTo a x gs l st k) ∧ Blk wr w.heap.size 62 #[.int .i64 lo, .int .i64 hi] ∧ SrFr gx none w1 wr) (fun i wr => (hi + 1 - intOf i).toNat)
  case atStart => exact ⟨0, by go_num, Nat.zero_le _, by rw [hst0.out]; exact hLk1, kL, SrFr.refl _ _ _⟩
  case round =>
    clear hLk1 kL
    obtain ⟨k, rfl, hk, hLk, kL, hfr⟩ := hrel
    have hsz := hfr.2.2.2.1
    obtain ⟨cL, fL, lL⟩ := kL.rules
    have hwn3 := hwn2.out
    by_cases hlt2 : k < wn
    · have h5 : lo + (k : Int) ≤ hi := by omega
      have u5 := IntWalk.i64_in (lo + (k : Int) + 1) (by omega)
      have hDw := hfr.sl hD1 (fun h q o e => ⟨hDx h q o e, by simp⟩)
      have hSw := hfr.sl hS1 (fun _ q o e => ⟨hxS q o e, by simp⟩)
      have hGw := hfr.sl hG1 (fun _ q o e => ⟨hxG q o e, by simp⟩)
      have hdk := hdel (lo + (k : Int)) (by omega) (by omega)
      have hstk := hst.out k
      replace hstk := Lib.hid hstk
      clear hwn3
      obtain ⟨dk, hdkv⟩ : ∃ dk, dk = lo + (k : Int) := ⟨_, rfl⟩
      rw [← hdkv] at h5 u5 hdk hstk ⊢
      replace hdkv := Lib.hid hdkv
      have hbig1 := Lib.hid (show nd + 1 ≤ maxLen by unfold maxLen; omega)
      have hbig2 := Lib.hid (show (nd + 1) * 8 ≤ 140737488355328 by omega)
      go_wp2_with fail
      refine (hOw _ hDw).mono ?_
      rintro e W2 ⟨v, rfl, hownc, hb2⟩
      clear cL fL lL
      have hnews : ∀ (j : Nat) (u : Value), ([.int .i64 dk] : List Value)[j]? = some u → (W2.alloc (.cells #[.int .i64 dk] 3)).cell? ((⟨W2.heap.size, 0, none⟩ : Addr).add j) = some u :=
        World.news_of_block (cs := #[.int .i64 dk]) (World.alloc_heap_new W2 _)
      have hownf := hownc.alloc (.cells #[.int .i64 dk] 3)
      have hbf := hb2.alloc hb2.size (.cells #[.int .i64 dk] 3)
      go_wp2_with (at_builtin; refine wpList_append_lies _ rfl (.tmp 64) (.tmp 66) 22 rfl wr.heap.size 3 i0 (.int .i64 0) 1 8 Try.underlying22 hi0 hz0 hz1 hz2 rfl (by decide) v nd (l.map (.int .i64 ·)) rfl hownf ⟨W2.heap.size, 0, none⟩ 1 1 [.int .i64 dk] rfl rfl hnews (by simp [Value.oneCell']) (by decide) hbig1.out hbig2.out hbf.size (W2.heap.size + 1) (by simp) ?_; intro g11 cap2 w7 hown7 hgrow hlies hlt7)
      have hbz7 : Below wr.heap.size wr w7 := hbf.grown hgrow hbf.size (fun q e => (hownf.lt q e).1)
      have hg11 := hown7.lt g11 rfl
      have hSn := SlAt.ownQ (enc := ivs) hown7 (by omega) (l ++ [dk]) (by rw [flatMap_ivs, List.map_append]; rfl) (fun _ => rfl) (by rw [List.length_append, hll.out]; rfl)
      have hs7 := hbz7.size
      clear hownc hb2 hnews hownf hbf hown7 hgrow hlies
      refine (hm (l ++ [dk]) (some ⟨g11, 0, none⟩) (nd + 1) cap2 _ w7 (hSw.below hbz7) (hGw.below hbz7) (hLk.below hbz7) (hSn.mono (Nat.zero_le _)) hdk (by have := hnd.out; omega) (by omega) hgB (fun _ q o e => by
        simp only [Option.some.injEq, Addr.mk.injEq, and_true] at e
        obtain ⟨rfl, rfl⟩ := e
        omega)).mono ?_
      rintro e W8 ⟨⟨v8, rfl⟩, hLk8, hfr8⟩
      rw [hgs.out] at hLk8
      have hfrA := (hfr.trans (SrFr.of_below (row := none) hbz7) (fun q e => by cases e)).trans hfr8 (fun q e => by cases e)
      have kLA := hfr8.blk (kL.below hbz7) (by omega) (by simp)
      clear hfr hfr8 hLk kL hSn hDw hSw hGw hbz7
      go_wp2_with fail
      go_roundw
      case rel => exact ⟨k + 1, by have := hdkv.out; congr 1; omega, by omega, by rw [hstk.out]; exact hLk8, kLA, hfrA⟩
      case measure => have := hdkv.out; simp [intOf]; omega
    · obtain rfl : k = wn := by omega
      have h5 : ¬ lo + (k : Int) ≤ hi := by omega
      clear hwn3
      go_wp2_with fail
      go_end0
      exact ⟨⟨_, rfl⟩, by rw [hfin.out]; exact hLk, (SrFr.of_below b1).trans hfr (fun q e => by cases e)⟩
end Go.Proofs.Ytfengddpfeneiaa
