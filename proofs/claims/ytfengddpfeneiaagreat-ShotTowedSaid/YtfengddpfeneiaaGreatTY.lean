/-
  Walks: the least and the greatest value of an expression in a region (package region).
  Walks: the first best place of a region by the value of an expression; Extreme (package region).
-/
import Derived.Test.YtfengddpfeneiaaGreatTM
import Derived.Deep.Cut
namespace Go.Proofs.YtfengddpfeneiaaGreat
open Go.RowKit Go.Shelf
set_option linter.unusedSimpArgs false
set_option linter.unusedVariables false
attribute [local go_sem] Oper.semAt_some

/-- A place with a value. -/
structure Vl where
  n : Int
  x : Int
  y : Int
def vlOf (p q : Int) (z : Pnt) : Vl := ⟨p * z.x + q * z.y, z.x, z.y⟩
def vlL (r : Reg) (p q : Int) : List Vl := (ptsL r).map (vlOf p q)
def pckV (f : Vl → Vl → Bool) : Option Vl → Vl → Option Vl
  | none, b => some b
  | some c, b => if f b c = true then some b else some c
def pvTo (f : Vl → Vl → Bool) (r : Reg) (p q : Int) (k : Nat) : Option Vl := ((vlL r p q).take k).foldl (pckV f) none
theorem pvTo_succ (f : Vl → Vl → Bool) {r : Reg} {p q : Int} {k : Nat} {z : Pnt} (h : (ptsL r)[k]? = some z) : pvTo f r p q (k + 1) = pckV f (pvTo f r p q k) (vlOf p q z) := by
  unfold pvTo
  have e : (vlL r p q)[k]? = some (vlOf p q z) := by unfold vlL; rw [List.getElem?_map, h]; rfl
  rw [List.take_add_one, e, List.foldl_append]; rfl
def pvAll (f : Vl → Vl → Bool) (r : Reg) (p q : Int) : Option Vl := (vlL r p q).foldl (pckV f) none
theorem pvTo_all (f : Vl → Vl → Bool) (r : Reg) (p q : Int) : pvTo f r p q (ptsL r).length = pvAll f r p q := by
  unfold pvTo pvAll
  rw [List.take_of_length_le (by unfold vlL; rw [List.length_map]; exact Nat.le_refl _)]
def ltV (a b : Vl) : Bool := decide (a.n < b.n)
def gtV (a b : Vl) : Bool := decide (b.n < a.n)
def optV (o : Option Vl) : Vl := o.getD ⟨0, 0, 0⟩
/-! what is picked is the least, and the greatest -/
def sameV (g : Bnd → Int) (o : Option Vl) (b : Option Bnd) : Prop := o.isSome = b.isSome ∧ ∀ c B, o = some c → b = some B → c.n = g B
theorem same_step {f : Vl → Vl → Bool} {g : Bnd → Int} {mn : Int → Int → Int} (hf : ∀ a b : Vl, (if f a b = true then a.n else b.n) = mn b.n a.n) (hg : ∀ o v, g ⟨min o.lo (min v v), max o.hi (max v v)⟩ = mn (g o) v) (hz : ∀ v, g ⟨min v (min v v), max v (max v v)⟩ = v)
    {o : Option Vl} {b : Option Bnd} (h : sameV g o b) (v : Vl) : sameV g (pckV f o v) (addE b (v.n, v.n)) := by
  cases o with
  | none =>
    cases b with
    | none => exact ⟨rfl, fun c B h1 h2 => by cases h1; cases h2; exact (hz v.n).symm⟩
    | some B => exact absurd h.1 (by simp)
  | some c =>
    cases b with
    | none => exact absurd h.1 (by simp)
    | some B =>
      have h1 := h.2 c B rfl rfl
      have h2 := hf v c
      refine ⟨by unfold pckV; dsimp only; split <;> rfl, fun d D h3 h4 => ?_⟩
      simp only [addE, Option.some.injEq] at h4
      subst h4
      have h5 := hg B v.n
      rw [h5, ← h1, ← h2]
      unfold pckV at h3
      dsimp only at h3
      split at h3
      · rename_i h6; rw [if_pos h6]; cases h3; rfl
      · rename_i h6; rw [if_neg h6]; cases h3; rfl
theorem addE_pair (b : Option Bnd) (x y : Int) : addE (addE b (x, x)) (y, y) = addE b (x, y) := by
  cases b with
  | none => simp only [addE, Option.some.injEq, Bnd.mk.injEq]; omega
  | some B => simp only [addE, Option.some.injEq, Bnd.mk.injEq]; omega
theorem same_rows {f : Vl → Vl → Bool} {g : Bnd → Int} {mn : Int → Int → Int} (hf : ∀ a b : Vl, (if f a b = true then a.n else b.n) = mn b.n a.n) (hg : ∀ o v, g ⟨min o.lo (min v v), max o.hi (max v v)⟩ = mn (g o) v) (hz : ∀ v, g ⟨min v (min v v), max v (max v v)⟩ = v) (p q : Int) :
    ∀ (L : List RRow) (o : Option Vl) (b : Option Bnd), sameV g o b → sameV g (((L.flatMap rowPts).map (vlOf p q)).foldl (pckV f) o) (L.foldl (fun o w => addE o (p * w.x + q * w.fr, p * w.x + q * w.to)) b)
  | [], o, b, h => h
  | w :: L, o, b, h => by
    rw [List.flatMap_cons, List.map_append, List.foldl_append, List.foldl_cons]
    refine same_rows hf hg hz p q L _ _ ?_
    unfold rowPts
    by_cases e : w.fr = w.to
    · rw [if_pos e]
      have := same_step hf hg hz h (vlOf p q ⟨w.x, w.fr⟩)
      rw [← e]
      exact this
    · rw [if_neg e]
      have h1 := same_step hf hg hz h (vlOf p q ⟨w.x, w.fr⟩)
      have h2 := same_step hf hg hz h1 (vlOf p q ⟨w.x, w.to⟩)
      rw [show ((vlOf p q ⟨w.x, w.to⟩).n, (vlOf p q ⟨w.x, w.to⟩).n) = (p * w.x + q * w.to, p * w.x + q * w.to) from rfl, show ((vlOf p q ⟨w.x, w.fr⟩).n, (vlOf p q ⟨w.x, w.fr⟩).n) = (p * w.x + q * w.fr, p * w.x + q * w.fr) from rfl, addE_pair] at h2
      exact h2
theorem pv_lo (r : Reg) (p q : Int) : sameV (·.lo) (pvAll ltV r p q) (extO (rowsL r) p q) :=
  same_rows (f := ltV) (g := (·.lo)) (mn := fun a b => min a b) (fun a b => by unfold ltV; by_cases h : a.n < b.n <;> simp [h] <;> omega) (fun o v => by dsimp only; omega) (fun v => by dsimp only; omega) p q (rowsL r) none none ⟨rfl, fun c B h => by cases h⟩
theorem pv_hi (r : Reg) (p q : Int) : sameV (·.hi) (pvAll gtV r p q) (extO (rowsL r) p q) :=
  same_rows (f := gtV) (g := (·.hi)) (mn := fun a b => max a b) (fun a b => by unfold gtV; by_cases h : b.n < a.n <;> simp [h] <;> omega) (fun o v => by dsimp only; omega) (fun v => by dsimp only; omega) p q (rowsL r) none none ⟨rfl, fun c B h => by cases h⟩
theorem ext_some (p q : Int) : ∀ (L : List RRow) (b : Option Bnd), (L.foldl (fun o w => addE o (p * w.x + q * w.fr, p * w.x + q * w.to)) b).isSome = (b.isSome || !L.isEmpty)
  | [], b => by simp
  | w :: L, b => by
    rw [List.foldl_cons, ext_some p q L]
    have : (addE b (p * w.x + q * w.fr, p * w.x + q * w.to)).isSome = true := by cases b <;> rfl
    rw [this]; simp
theorem pts_big {r : Reg} (hr : midR r) {k : Nat} {z : Pnt} (h : (ptsL r)[k]? = some z) : (-1000000 ≤ z.x ∧ z.x ≤ 1000000) ∧ (-3000000 ≤ z.y ∧ z.y ≤ 3000000) := by
  obtain ⟨q, hq, hz⟩ := List.mem_flatMap.1 (List.mem_of_getElem? h)
  obtain ⟨j, hj, e, hle⟩ := rowsTo_mem hq
  obtain ⟨⟨x1, x2, x3, x4⟩, ⟨y1, y2, y3, y4⟩, ⟨s1, s2, s3, s4⟩, ⟨d1, d2, d3, d4⟩⟩ := hr
  have hn : r.x.lo + (j : Int) ≤ r.x.hi := by unfold nX at hj; omega
  subst e
  unfold rowPts at hz
  unfold rowB at *
  dsimp only at *
  split at hz
  · simp only [List.mem_singleton] at hz
    subst hz
    dsimp only; omega
  · simp only [List.mem_cons, List.not_mem_nil, or_false] at hz
    rcases hz with rfl | rfl <;> (dsimp only; omega)
def VlG (r : Reg) (p q : Int) (k : Nat) (vs : Array Value) (_ : World) : Prop := ∃ z, (ptsL r)[k]? = some z ∧ vs = #[.agg #[.int .i64 (vlOf p q z).n, .int .i64 (vlOf p q z).x, .int .i64 (vlOf p q z).y]]
def VlI (r : Reg) (p q : Int) (gf gv : Nat) (W : World) : Prop := Blk W gf 42 (regA r) ∧ Blk W gv 23 #[.int .i64 p, .int .i64 q]
set_option maxRecDepth 100000 in
set_option maxHeartbeats 1000000 in
theorem extreme1_iter (m : Nat) (r : Reg) (p q : Int) (gf gv : Nat) (hm1 : 2 ≤ m) (hr : midR r) (hp : -1000 ≤ p ∧ p ≤ 1000) (hq : -1000 ≤ q ∧ q ≤ 1000) :
    IterK Fence.wide m Tryz.prog 77 #[.pointer (some ⟨gf, 0, none⟩), .pointer (some ⟨gv, 0, none⟩)] (ptsL r).length (VlG r p q) (VlI r p q gf gv) := by
  intro lr J Jx W hJ hJx hY hL h0
  have hm0 : 1 ≤ m := by omega
  have hbig := fun k z h => pts_big hr (k := k) (z := z) h
  have hbo := fun W => rbounds_any r W
  have hen := fun W => ends_any r W
  refine callsIn_of_wp_marks Tryz.func77 rfl trivial ?_ rfl
  simp only [Tryz.ntmps77, List.size_toArray, List.length_cons, List.length_nil, Nat.reduceAdd, Nat.reduceSub, Array.replicate_succ, Array.replicate_zero, List.push_toArray, List.append_toArray, List.nil_append, List.cons_append]
  have k1 : Blk W gf 42 (regA r) := hL.1
  have k1a := k1.alloc (.cells #[.func (.yield lr) #[] #[]] 146)
  have hLa : VlI r p q gf gv (W.alloc (.cells #[.func (.yield lr) #[] #[]] 146)) := ⟨k1a, hL.2.alloc _⟩
  have kya := Blk.new W 146 #[.func (.yield lr) #[] #[]]
  have bWa : Below W.heap.size W (W.alloc (.cells #[.func (.yield lr) #[] #[]] 146)) := (Below.refl _ _).alloc (Nat.le_refl _) _
  have hsza : (W.alloc (.cells #[.func (.yield lr) #[] #[]] 146)).heap.size = W.heap.size + 1 := by simp
  replace hsza := Lib.hid hsza
  simp only [regA] at k1a hen
  obtain ⟨c1, f1, l1⟩ := k1a.rules
  have hst : ∀ (a : Addr) (fn : Fn) (b c : Array Value) (m : Mode) (w : World), (store a (.func fn b c) m).run Tryz.prog w = stored Tryz.prog w a (.func fn b c) m := fun _ _ _ _ _ _ => run_store _ _ _ _ _ rfl
  gi_wp2_with fail
  refine ⟨trivial, ?_⟩
  refine (callsIn_wide.2 (hbo _)).mono ?_
  rintro e w1 ⟨rfl, hb1⟩
  clear c1 f1 l1
  replace hLa : VlI r p q gf gv w1 := ⟨hLa.1.below hb1, hLa.2.below hb1⟩
  replace kya := kya.below hb1
  replace bWa := bWa.trans (hb1.mono bWa.size)
  have hsz1 := hb1.size
  rw [hsza.out] at hsz1
  clear hb1 k1a
  gi_wp2_with fail
  refine ⟨trivial, ?_⟩
  refine (callsIn_wide.2 (hen _)).mono ?_
  rintro e w2 ⟨rfl, rfl⟩
  gi_wp2_with fail
  obtain ⟨W0, hW0⟩ : ∃ W0, W0 = w1.alloc (.cells (regA r) 117) := ⟨_, rfl⟩
  have hW0b := hW0
  simp only [regA] at hW0b
  rw [← hW0b]
  clear hW0b
  have hL0 : FourL r w1.heap.size W0 := by rw [hW0]; exact Blk.newAt rfl
  have k2 : Blk W0 W.heap.size 146 #[.func (.yield lr) #[] #[]] := by rw [hW0]; exact kya.alloc _
  have bW : Below W.heap.size W W0 := by rw [hW0]; exact bWa.alloc bWa.size _
  have hLb : VlI r p q gf gv W0 := by rw [hW0]; exact ⟨hLa.1.alloc _, hLa.2.alloc _⟩
  have hsz : W0.heap.size = w1.heap.size + 1 := by rw [hW0]; simp
  have cW : Calm W.heap.size W W0 := calm_of_below bW (Nat.le_refl _)
  clear hW0 hLa kya bWa
  generalize w1.heap.size = g4 at *
  refine wp_range rfl (by omega) (gf := 127) (lb := #[.pointer (some ⟨g4, 0, none⟩)]) rfl trivial eg_ends1
    (ends1_iter _ r _ (by omega) hr) (fun k vs W ⟨q, _, e⟩ => by rw [e]; rfl)
    (fun i A => Blk A W.heap.size 146 #[.func (.yield lr) #[] #[]] ∧ J i A ∧ VlI r p q gf gv A)
    (fun c A => c = .ret ∧ Jx A) (fun k A B h hc => ⟨calm_blk hc h.1, hJ _ _ _ h.2.1 (hc.mono (by omega)), calm_blk hc h.2.2.1, calm_blk hc h.2.2.2⟩) (fun _ A B h hc => ⟨h.1, hJx _ _ h.2 (hc.mono (by omega))⟩) (fun A B h hc => calm_blk hc h)
    ⟨k2, hJ _ _ _ h0 cW, hLb⟩ hL0 ?round ?done ?stop
  case stop =>
    rintro D c W3 hD ⟨rfl, hj⟩ hK
    gi_wp2_with fail
    exact ⟨by simp, .inl ⟨_, _, rfl, run_takeDeferred hK, _, results_none rfl _ _ _, ⟨_, rfl⟩, .inr (hJx _ _ hj (calm_put _ hK rfl (by omega)))⟩⟩
  case done =>
    rintro D W3 hD ⟨-, hj, -⟩ hK
    gi_wp2_with fail
    exact ⟨by simp, .inl ⟨_, _, rfl, run_takeDeferred hK, _, results_none rfl _ _ _, ⟨_, rfl⟩, .inl (hJ _ _ _ hj (calm_put _ hK rfl (by omega)))⟩⟩
  case round =>
    rintro l i vs W3 hW hi ⟨k2, hj, hLo⟩ hLi ⟨z, hz, rfl⟩
    gi_wp2_with fail
    refine ⟨(Below.refl _ _).alloc (Nat.le_refl _) _, fun W2 hc => ?_⟩
    have hc3 : Calm W0.heap.size W3 W2 := (calm_of_below ((Below.refl _ _).alloc (Nat.le_refl _) _) hW).trans hc
    have k3 : Blk W2 W3.heap.size 23 #[.int .i64 z.x, .int .i64 z.y] := calm_blk hc (Blk.new _ _ _)
    replace k2 := calm_blk hc3 k2
    replace hLo : VlI r p q gf gv W2 := ⟨calm_blk hc3 hLo.1, calm_blk hc3 hLo.2⟩
    replace hLi : FourL r g4 W2 := calm_blk hc3 hLi
    replace hj := hJ _ _ _ hj (hc3.mono (by omega))
    have hs3 : W3.heap.size < W2.heap.size := by have := hc.1.size; simp at this; omega
    have hW2 : W0.heap.size ≤ W2.heap.size := by omega
    obtain ⟨⟨b1, b2⟩, ⟨b3, b4⟩⟩ := hbig i z hz
    have hval : Hid (vlOf p q z = ⟨p * z.x + q * z.y, z.x, z.y⟩) := Lib.hid rfl
    have m1 := smul_bd hp.1 hp.2 b1 b2
    have m2 := smul_bd hq.1 hq.2 b3 b4
    have u1 := IntWalk.i64_in (p * z.x) (by omega)
    have u2 := IntWalk.i64_in (q * z.y) (by omega)
    have u3 := IntWalk.i64_in (p * z.x + q * z.y) (by omega)
    have kp := hLo.2
    obtain ⟨fn, tmps, assign, body, hy, hR⟩ := hY i #[.agg #[.int .i64 (vlOf p q z).n, .int .i64 (vlOf p q z).x, .int .i64 (vlOf p q z).y]] W2 hi hj hLo ⟨_, hz, rfl⟩
    simp only [hval.out] at hy hR
    clear hc hc3 hJ hJx cW bW h0 hL hL0 k1 hbig m1 m2
    obtain ⟨c3, f3, l3⟩ := k3.rules
    obtain ⟨cp, fp, lp⟩ := kp.rules
    obtain ⟨c2, f2, l2⟩ := k2.rules
    gi_wp2_with fail
    refine ⟨fun h => (by cases h), (RoundIn.anyl hR).mono ?_⟩
    clear hR hy c2 f2 l2 c3 f3 l3 cp fp lp
    rintro e W6 (⟨rfl, hj6, hLo6, hn6⟩ | ⟨rfl, hJx6, hn6⟩)
    · gi_wp2_with fail
      exact ⟨hn6.mono (by omega), ⟨nc_blk hn6 k2 (Nat.le_refl _), hj6, hLo6⟩, nc_four hn6 hLi (by omega)⟩
    · gi_wp2_with fail
      exact ⟨hn6.mono (by omega), rfl, hJx6⟩
theorem eg_extreme1 : Enters Tryz.prog 77 := enters_of Tryz.func77 (by kernel_rfl) rfl
set_option maxRecDepth 100000 in
set_option maxHeartbeats 400000 in
theorem ltV_any (a b : Vl) (w : World) :
    Calls Tryz.prog 80 #[.agg #[.int .i64 a.n, .int .i64 a.x, .int .i64 a.y], .agg #[.int .i64 b.n, .int .i64 b.x, .int .i64 b.y]] w fun e w' => e = .returned (.bool (ltV a b)) ∧ Below w.heap.size w w' := by
  go_enter Tryz.func80, Tryz.ntmps80
  go_wp2
  go_ret
  exact ⟨rfl, ((Below.refl w.heap.size w).alloc (Nat.le_refl _) _).alloc (by simp) _⟩
set_option maxRecDepth 100000 in
set_option maxHeartbeats 400000 in
theorem gtV_any (a b : Vl) (w : World) :
    Calls Tryz.prog 81 #[.agg #[.int .i64 a.n, .int .i64 a.x, .int .i64 a.y], .agg #[.int .i64 b.n, .int .i64 b.x, .int .i64 b.y]] w fun e w' => e = .returned (.bool (gtV a b)) ∧ Below w.heap.size w w' := by
  go_enter Tryz.func81, Tryz.ntmps81
  go_wp2
  go_ret
  exact ⟨rfl, ((Below.refl w.heap.size w).alloc (Nat.le_refl _) _).alloc (by simp) _⟩
end Go.Proofs.YtfengddpfeneiaaGreat
namespace Go.Proofs.YtfengddpfeneiaaGreat
open Go.RowKit Go.Shelf
set_option linter.unusedSimpArgs false
set_option linter.unusedVariables false
attribute [local go_sem] Oper.semAt_some

theorem pckV_some (f : Vl → Vl → Bool) (o : Option Vl) (b : Vl) : (pckV f o b).isSome = true := by
  cases o with
  | none => rfl
  | some c => unfold pckV; dsimp only; split <;> rfl
def PickVI (g : Nat) (f : Vl → Vl → Bool) (r : Reg) (pp qq : Int) (w : World) (k : Nat) (A : World) : Prop :=
  Blk A w.heap.size 153 #[.func (.func g) #[] #[]] ∧ Blk A (w.heap.size + 1) 149 #[.int .i64 (optV (pvTo f r pp qq k)).n, .int .i64 (optV (pvTo f r pp qq k)).x, .int .i64 (optV (pvTo f r pp qq k)).y] ∧ Blk A (w.heap.size + 1 + 1) 4 #[.bool (pvTo f r pp qq k).isSome] ∧ Below w.heap.size w A
theorem PickVI.calm {g : Nat} {f : Vl → Vl → Bool} {r : Reg} {pp qq : Int} {w A B : World} {k B0 : Nat} (h : PickVI g f r pp qq w k A) (hc : Calm B0 A B) (hB : w.heap.size ≤ B0) : PickVI g f r pp qq w k B := ⟨calm_blk hc h.1, calm_blk hc h.2.1, calm_blk hc h.2.2.1, calm_below hc h.2.2.2 hB⟩
set_option maxRecDepth 100000 in
set_option maxHeartbeats 1000000 in
theorem pickV_ltV (r : Reg) (pp qq : Int) (gf gp : Nat) (w : World) (hr : midR r) (hpp : -1000 ≤ pp ∧ pp ≤ 1000) (hqq : -1000 ≤ qq ∧ qq ≤ 1000) (hL : VlI r pp qq gf gp w) :
    Calls Tryz.prog 79 #[.func (.func 77) #[] #[.pointer (some ⟨gf, 0, none⟩), .pointer (some ⟨gp, 0, none⟩)], .func (.func 80) #[] #[]] w fun e w' => e = .returned (.tuple #[.agg #[.int .i64 (optV (pvAll ltV r pp qq)).n, .int .i64 (optV (pvAll ltV r pp qq)).x, .int .i64 (optV (pvAll ltV r pp qq)).y], .bool (pvAll ltV r pp qq).isSome]) ∧ Below w.heap.size w w' := by
  have hlt := fun a b W => ltV_any a b W
  have hgf : gf < w.heap.size := Blk.lt hL.1
  have hgp : gp < w.heap.size := hL.2.lt
  refine (callsIn_wide (n := 9)).1 ?_
  refine callsIn_of_wp_marks Tryz.func79 rfl trivial ?_ rfl
  simp only [Tryz.ntmps79, List.size_toArray, List.length_cons, List.length_nil, Nat.reduceAdd, Nat.reduceSub, Array.replicate_succ, Array.replicate_zero, List.push_toArray, List.append_toArray, List.nil_append, List.cons_append]
  refine wpIn_wide.2 ?_
  have hst : ∀ (a : Addr) (fn : Fn) (b c : Array Value) (m : Mode) (w : World), (store a (.func fn b c) m).run Tryz.prog w = stored Tryz.prog w a (.func fn b c) m := fun _ _ _ _ _ _ => run_store _ _ _ _ _ rfl
  go_wp2_with fail
  obtain ⟨W0, hW0⟩ : ∃ W0, W0 = ((w.alloc (.cells #[.func (.func 80) #[] #[]] 153)).alloc (.cells #[.int .i64 0, .int .i64 0, .int .i64 0] 149)).alloc (.cells #[.bool false] 4) := ⟨_, rfl⟩
  rw [← hW0]
  have hI0 : PickVI 80 ltV r pp qq w 0 W0 := by rw [hW0]; exact ⟨((Blk.new _ _ _).alloc _).alloc _, (Blk.newAt (by simp)).alloc _, Blk.newAt (by simp), (((Below.refl _ _).alloc (Nat.le_refl _) _).alloc (by simp) _).alloc (by simp; omega) _⟩
  have hL0 : VlI r pp qq gf gp W0 := by rw [hW0]; exact ⟨((Blk.alloc hL.1 _).alloc _).alloc _, ((hL.2.alloc _).alloc _).alloc _⟩
  have hsz : W0.heap.size = w.heap.size + 3 := by rw [hW0]; simp
  clear hW0
  refine (wpIn_wide (n := 9)).1 ?_
  refine wp_range rfl (by decide) (gf := 77) (lb := #[.pointer (some ⟨gf, 0, none⟩), .pointer (some ⟨gp, 0, none⟩)]) rfl trivial eg_extreme1
    (extreme1_iter _ r pp qq gf gp (by decide) hr hpp hqq) (fun k vs W ⟨_, _, e⟩ => by rw [e]; rfl)
    (PickVI 80 ltV r pp qq w) (fun _ _ => False) (fun k A B h hc => h.calm hc (by omega)) (fun _ _ _ h _ => h) (fun A B h hc => ⟨calm_blk hc h.1, calm_blk hc h.2⟩) hI0 hL0 ?round ?done ?stop
  case stop => exact fun _ _ _ _ h _ => h.elim
  case done =>
    rintro D W hD ⟨-, k1, k2, hb⟩ hK
    rw [pvTo_all] at k1 k2
    obtain ⟨B, hB⟩ : ∃ B, optV (pvAll ltV r pp qq) = B := ⟨_, rfl⟩
    rw [hB] at k1
    replace hB := Lib.hid hB
    obtain ⟨S, hSo⟩ : ∃ S, (pvAll ltV r pp qq).isSome = S := ⟨_, rfl⟩
    rw [hSo] at k2
    replace hSo := Lib.hid hSo
    go_wp2_with fail
    refine wp_held_np ((fun w' : World => (∀ j, w'.cell? ⟨w.heap.size + 1, j, none⟩ = #[Value.int .i64 B.n, .int .i64 B.x, .int .i64 B.y][j]?) ∧ (∀ j, w'.cell? ⟨w.heap.size + 1 + 1, j, none⟩ = #[Value.bool S][j]?))) (by kernel_rfl) ?_
    have k1d := k1.drew
    have k2d := k2.drew
    have hKd : W.drew.heap[D]? = some (.deferred (some [])) := hK
    replace hb := hb.drew
    clear k1 k2 hK
    generalize W.drew = Wd at *
    have hS : (fun w' : World => (∀ j, w'.cell? ⟨w.heap.size + 1, j, none⟩ = #[Value.int .i64 B.n, .int .i64 B.x, .int .i64 B.y][j]?) ∧ (∀ j, w'.cell? ⟨w.heap.size + 1 + 1, j, none⟩ = #[Value.bool S][j]?)) Wd := ⟨k1d.cell, k2d.cell⟩
    refine held_take (i := 0) (v := ?_) 18 rfl rfl (by kernel_rfl) (by kernel_rfl) (by kernel_rfl) (fun _ _ _ h => h) (Or.inl ⟨by rfl, ?_⟩) hS ?_
    rotate_left 1
    · intro w' hSw
      try dsimp only at hSw
      obtain ⟨q1, q2⟩ := hSw
      go_simp
      all_goals with_reducible rfl
    try simp only [Act.put, List.setIfInBounds_toArray, List.set_cons_zero, List.set_cons_succ]
    refine held_take (i := 1) (v := ?_) 19 rfl rfl (by kernel_rfl) (by kernel_rfl) (by kernel_rfl) (fun _ _ _ h => h) (Or.inl ⟨by rfl, ?_⟩) hS ?_
    rotate_left 1
    · intro w' hSw
      try dsimp only at hSw
      obtain ⟨q1, q2⟩ := hSw
      go_simp
      all_goals with_reducible rfl
    try simp only [Act.put, List.setIfInBounds_toArray, List.set_cons_zero, List.set_cons_succ]
    clear hS
    have k1z := ((k1d.set_ 0 (.int .i64 B.n)).set_ 1 (.int .i64 B.x)).set_ 2 (.int .i64 B.y)
    simp only [List.setIfInBounds_toArray, List.set_cons_zero, List.set_cons_succ] at k1z
    have k2z := ((k2d.far (p := ⟨w.heap.size + 1, 0, none⟩) (by dsimp only; omega) (.int .i64 B.n)).far (p := ⟨w.heap.size + 1, 1, none⟩) (by dsimp only; omega) (.int .i64 B.x)).far (p := ⟨w.heap.size + 1, 2, none⟩) (by dsimp only; omega) (.int .i64 B.y)
    have hbz := ((hb.setCell (p := ⟨w.heap.size + 1, 0, none⟩) (by dsimp only; omega) (.int .i64 B.n)).setCell (p := ⟨w.heap.size + 1, 1, none⟩) (by dsimp only; omega) (.int .i64 B.x)).setCell (p := ⟨w.heap.size + 1, 2, none⟩) (by dsimp only; omega) (.int .i64 B.y)
    have hKz : (((Wd.setCell ⟨w.heap.size + 1, 0, none⟩ (.int .i64 B.n)).setCell ⟨w.heap.size + 1, 1, none⟩ (.int .i64 B.x)).setCell ⟨w.heap.size + 1, 2, none⟩ (.int .i64 B.y)).heap[D]? = some (.deferred (some [])) := (Below.heap_setCell _ _ _ _ (by dsimp only; omega)).trans ((Below.heap_setCell _ _ _ _ (by dsimp only; omega)).trans ((Below.heap_setCell _ _ _ _ (by dsimp only; omega)).trans hKd))
    obtain ⟨wz, hwz⟩ : ∃ x, x = ((Wd.setCell ⟨w.heap.size + 1, 0, none⟩ (.int .i64 B.n)).setCell ⟨w.heap.size + 1, 1, none⟩ (.int .i64 B.x)).setCell ⟨w.heap.size + 1, 2, none⟩ (.int .i64 B.y) := ⟨_, rfl⟩
    rw [← hwz] at k1z k2z hbz hKz
    refine held_one (i := 2) (by kernel_rfl) rfl rfl (fun K hK => ?_)
    obtain ⟨c1, f1, l1⟩ := k1d.rules
    go_simp
    rw [← hwz]
    refine hK _ _ ⟨k1z.cell, k2z.cell⟩ ?_
    clear hK K hwz c1 f1 l1 k1d k2d hb hKd
    try simp only [Act.put, List.setIfInBounds_toArray, List.set_cons_zero, List.set_cons_succ]
    have k1y := k1z.far (p := ⟨w.heap.size + 1 + 1, 0, none⟩) (by dsimp only; omega) (.bool S)
    have k2y := k2z.set_ 0 (.bool S)
    have hby := hbz.setCell (p := ⟨w.heap.size + 1 + 1, 0, none⟩) (by dsimp only; omega) (.bool S)
    have hKy : (wz.setCell ⟨w.heap.size + 1 + 1, 0, none⟩ (.bool S)).heap[D]? = some (.deferred (some [])) := (Below.heap_setCell _ _ _ _ (by dsimp only; omega)).trans hKz
    refine held_one (i := 3) (by kernel_rfl) rfl rfl (fun K hK => ?_)
    obtain ⟨c2, f2, l2⟩ := k2z.rules
    go_simp
    refine hK _ _ ⟨k1y.cell, k2y.cell⟩ ?_
    clear hK K c2 f2 l2 k1z k2z hbz hKz
    generalize wz.setCell ⟨w.heap.size + 1 + 1, 0, none⟩ (.bool S) = wy at *
    refine wpAnyH_done (by kernel_rfl) (noPanic_normal ?_) _
    go_wp2_with fail
    refine ⟨by simp, .inl ⟨_, _, rfl, run_takeDeferred hKy, ?_⟩⟩
    have hpu : Below w.heap.size w (wy.putObj D (.deferred none)) := calm_below (calm_put (B := w.heap.size) _ hKy rfl (by omega)) hby (Nat.le_refl _)
    have k1e := calm_blk (calm_put (B := w.heap.size) (.deferred none) hKy rfl (by omega)) k1y
    have k2e := calm_blk (calm_put (B := w.heap.size) (.deferred none) hKy rfl (by omega)) k2y
    obtain ⟨c1, f1, l1⟩ := k1e.rules
    obtain ⟨c2, f2, l2⟩ := k2e.rules
    refine ⟨.tuple #[.agg #[.int .i64 B.n, .int .i64 B.x, .int .i64 B.y], .bool S], ?_, by rw [hB.out, hSo.out], hpu⟩
    simp [results, Tryz.results79, go_sem, c1, c2]
  case round =>
    rintro l i vs W hW hi ⟨k0, k1, k2, hb⟩ hLi ⟨q, hq, rfl⟩
    gi_wp2_with fail
    refine ⟨(Below.refl _ _).alloc (Nat.le_refl _) _, fun W2 hc => ?_⟩
    have hc3 : Calm W0.heap.size W W2 := (calm_of_below ((Below.refl _ _).alloc (Nat.le_refl _) _) hW).trans hc
    have hst := Lib.hid (pvTo_succ ltV (p := pp) (q := qq) hq)
    have hsm := Lib.hid (pckV_some ltV (pvTo ltV r pp qq i) (vlOf pp qq q))
    generalize vlOf pp qq q = b at *
    have k6 : Blk W2 W.heap.size 149 #[.int .i64 b.n, .int .i64 b.x, .int .i64 b.y] := calm_blk hc (Blk.new _ _ _)
    replace hLi : VlI r pp qq gf gp W2 := ⟨calm_blk hc3 hLi.1, calm_blk hc3 hLi.2⟩
    have hI : PickVI 80 ltV r pp qq w i W2 := PickVI.calm ⟨k0, k1, k2, hb⟩ hc3 (by omega)
    have hsW : W.heap.size < W2.heap.size := by have := hc.1.size; simp at this; omega
    clear hc hc3 k0 k1 k2 hb hI0 hL0 hL
    obtain ⟨k0, k1, k2, hb⟩ := hI
    replace hq := Lib.hid hq
    obtain ⟨o, ho⟩ : ∃ o, pvTo ltV r pp qq i = o := ⟨_, rfl⟩
    rw [ho] at k1 k2 hst hsm
    replace ho := Lib.hid ho
    cases o with
    | none =>
      simp only [Option.isSome_none] at k2
      replace hst : Hid (pvTo ltV r pp qq (i + 1) = some b) := hst
      have hn := NC.refl W0.heap.size W2
      have kz := ((k1.set_ 0 (.int .i64 b.n)).set_ 1 (.int .i64 b.x)).set_ 2 (.int .i64 b.y)
      simp only [List.setIfInBounds_toArray, List.set_cons_zero, List.set_cons_succ] at kz
      obtain ⟨c1, f1, l1⟩ := k1.rules
      obtain ⟨c2, f2, l2⟩ := k2.rules
      obtain ⟨c6, f6, l6⟩ := k6.rules
      gi_wp2_with fail
      refine ⟨fun _ h => (by cases h), ?_⟩
      gi_wp2_with fail
      clear c1 f1 l1 c2 f2 l2 c6 f6 l6
      have hn2 := (((hn.trans (nc_setCell _ ⟨w.heap.size + 1, 0, none⟩ (.int .i64 b.n) (by dsimp only; omega))).trans (nc_setCell _ ⟨w.heap.size + 1, 1, none⟩ (.int .i64 b.x) (by dsimp only; omega))).trans (nc_setCell _ ⟨w.heap.size + 1, 2, none⟩ (.int .i64 b.y) (by dsimp only; omega))).trans (nc_setCell _ ⟨w.heap.size + 1 + 1, 0, none⟩ (.bool true) (by dsimp only; omega))
      have kz0 := (((k0.far (p := ⟨w.heap.size + 1, 0, none⟩) (by dsimp only; omega) (.int .i64 b.n)).far (p := ⟨w.heap.size + 1, 1, none⟩) (by dsimp only; omega) (.int .i64 b.x)).far (p := ⟨w.heap.size + 1, 2, none⟩) (by dsimp only; omega) (.int .i64 b.y)).far (p := ⟨w.heap.size + 1 + 1, 0, none⟩) (by dsimp only; omega) (.bool true)
      have kz1 := kz.far (p := ⟨w.heap.size + 1 + 1, 0, none⟩) (by dsimp only; omega) (.bool true)
      have kz2 := (((k2.far (p := ⟨w.heap.size + 1, 0, none⟩) (by dsimp only; omega) (.int .i64 b.n)).far (p := ⟨w.heap.size + 1, 1, none⟩) (by dsimp only; omega) (.int .i64 b.x)).far (p := ⟨w.heap.size + 1, 2, none⟩) (by dsimp only; omega) (.int .i64 b.y)).set_ 0 (.bool true)
      have hbz := (((hb.setCell (p := ⟨w.heap.size + 1, 0, none⟩) (by dsimp only; omega) (.int .i64 b.n)).setCell (p := ⟨w.heap.size + 1, 1, none⟩) (by dsimp only; omega) (.int .i64 b.x)).setCell (p := ⟨w.heap.size + 1, 2, none⟩) (by dsimp only; omega) (.int .i64 b.y)).setCell (p := ⟨w.heap.size + 1 + 1, 0, none⟩) (by dsimp only; omega) (.bool true)
      have hLz := (((Blk.far hLi.1 (p := ⟨w.heap.size + 1, 0, none⟩) (by dsimp only; omega) (.int .i64 b.n)).far (p := ⟨w.heap.size + 1, 1, none⟩) (by dsimp only; omega) (.int .i64 b.x)).far (p := ⟨w.heap.size + 1, 2, none⟩) (by dsimp only; omega) (.int .i64 b.y)).far (p := ⟨w.heap.size + 1 + 1, 0, none⟩) (by dsimp only; omega) (.bool true)
      have hPz := (((hLi.2.far (p := ⟨w.heap.size + 1, 0, none⟩) (by dsimp only; omega) (.int .i64 b.n)).far (p := ⟨w.heap.size + 1, 1, none⟩) (by dsimp only; omega) (.int .i64 b.x)).far (p := ⟨w.heap.size + 1, 2, none⟩) (by dsimp only; omega) (.int .i64 b.y)).far (p := ⟨w.heap.size + 1 + 1, 0, none⟩) (by dsimp only; omega) (.bool true)
      exact ⟨hn2, ⟨kz0, by rw [hst.out]; exact kz1, by rw [hst.out]; exact kz2, hbz⟩, hLz, hPz⟩
    | some cc =>
      simp only [Option.isSome_some, optV, Option.getD_some] at k1 k2
      obtain ⟨c0, f0, l0⟩ := k0.rules
      obtain ⟨c1, f1, l1⟩ := k1.rules
      obtain ⟨c2, f2, l2⟩ := k2.rules
      obtain ⟨c6, f6, l6⟩ := k6.rules
      gi_wp2_with fail
      refine ⟨trivial, (CallsIn.inRound l (callsIn_wide.2 (hlt b cc _))).mono ?_⟩
      rintro e W5 ⟨rfl, hbel⟩
      clear c0 f0 l0 c1 f1 l1 c2 f2 l2 c6 f6 l6
      have hn : NC W0.heap.size W2 W5 := nc_of_below hbel
      replace k0 := k0.below hbel
      replace k1 := k1.below hbel
      replace k2 := k2.below hbel
      replace k6 := k6.below hbel
      replace hb := hb.trans (hbel.mono hb.size)
      replace hLi : VlI r pp qq gf gp W5 := ⟨Blk.below hLi.1 hbel, hLi.2.below hbel⟩
      clear hbel
      cases hf : ltV b cc with
      | false =>
        replace hst : Hid (pvTo ltV r pp qq (i + 1) = some cc) := by show _ = _; rw [hst.out]; unfold pckV; dsimp only; rw [if_neg (by rw [hf]; simp)]
        replace hf := Lib.hid hf
        gi_wp2_with fail
        exact ⟨hn, ⟨k0, by rw [hst.out]; exact k1, by rw [hst.out]; exact k2, hb⟩, hLi⟩
      | true =>
        replace hst : Hid (pvTo ltV r pp qq (i + 1) = some b) := by show _ = _; rw [hst.out]; unfold pckV; dsimp only; rw [if_pos hf]
        replace hf := Lib.hid hf
        have kz := ((k1.set_ 0 (.int .i64 b.n)).set_ 1 (.int .i64 b.x)).set_ 2 (.int .i64 b.y)
        simp only [List.setIfInBounds_toArray, List.set_cons_zero, List.set_cons_succ] at kz
        obtain ⟨c1, f1, l1⟩ := k1.rules
        obtain ⟨c2, f2, l2⟩ := k2.rules
        obtain ⟨c6, f6, l6⟩ := k6.rules
        gi_wp2_with fail
        clear c1 f1 l1 c2 f2 l2 c6 f6 l6
        have hn2 := (((hn.trans (nc_setCell _ ⟨w.heap.size + 1, 0, none⟩ (.int .i64 b.n) (by dsimp only; omega))).trans (nc_setCell _ ⟨w.heap.size + 1, 1, none⟩ (.int .i64 b.x) (by dsimp only; omega))).trans (nc_setCell _ ⟨w.heap.size + 1, 2, none⟩ (.int .i64 b.y) (by dsimp only; omega))).trans (nc_setCell _ ⟨w.heap.size + 1 + 1, 0, none⟩ (.bool true) (by dsimp only; omega))
        have kz0 := (((k0.far (p := ⟨w.heap.size + 1, 0, none⟩) (by dsimp only; omega) (.int .i64 b.n)).far (p := ⟨w.heap.size + 1, 1, none⟩) (by dsimp only; omega) (.int .i64 b.x)).far (p := ⟨w.heap.size + 1, 2, none⟩) (by dsimp only; omega) (.int .i64 b.y)).far (p := ⟨w.heap.size + 1 + 1, 0, none⟩) (by dsimp only; omega) (.bool true)
        have kz1 := kz.far (p := ⟨w.heap.size + 1 + 1, 0, none⟩) (by dsimp only; omega) (.bool true)
        have kz2 := (((k2.far (p := ⟨w.heap.size + 1, 0, none⟩) (by dsimp only; omega) (.int .i64 b.n)).far (p := ⟨w.heap.size + 1, 1, none⟩) (by dsimp only; omega) (.int .i64 b.x)).far (p := ⟨w.heap.size + 1, 2, none⟩) (by dsimp only; omega) (.int .i64 b.y)).set_ 0 (.bool true)
        have hbz := (((hb.setCell (p := ⟨w.heap.size + 1, 0, none⟩) (by dsimp only; omega) (.int .i64 b.n)).setCell (p := ⟨w.heap.size + 1, 1, none⟩) (by dsimp only; omega) (.int .i64 b.x)).setCell (p := ⟨w.heap.size + 1, 2, none⟩) (by dsimp only; omega) (.int .i64 b.y)).setCell (p := ⟨w.heap.size + 1 + 1, 0, none⟩) (by dsimp only; omega) (.bool true)
        have hLz := (((Blk.far hLi.1 (p := ⟨w.heap.size + 1, 0, none⟩) (by dsimp only; omega) (.int .i64 b.n)).far (p := ⟨w.heap.size + 1, 1, none⟩) (by dsimp only; omega) (.int .i64 b.x)).far (p := ⟨w.heap.size + 1, 2, none⟩) (by dsimp only; omega) (.int .i64 b.y)).far (p := ⟨w.heap.size + 1 + 1, 0, none⟩) (by dsimp only; omega) (.bool true)
        have hPz := (((hLi.2.far (p := ⟨w.heap.size + 1, 0, none⟩) (by dsimp only; omega) (.int .i64 b.n)).far (p := ⟨w.heap.size + 1, 1, none⟩) (by dsimp only; omega) (.int .i64 b.x)).far (p := ⟨w.heap.size + 1, 2, none⟩) (by dsimp only; omega) (.int .i64 b.y)).far (p := ⟨w.heap.size + 1 + 1, 0, none⟩) (by dsimp only; omega) (.bool true)
        exact ⟨hn2, ⟨kz0, by rw [hst.out]; exact kz1, by rw [hst.out]; exact kz2, hbz⟩, hLz, hPz⟩
set_option maxRecDepth 100000 in
set_option maxHeartbeats 1000000 in
theorem pickV_gtV (r : Reg) (pp qq : Int) (gf gp : Nat) (w : World) (hr : midR r) (hpp : -1000 ≤ pp ∧ pp ≤ 1000) (hqq : -1000 ≤ qq ∧ qq ≤ 1000) (hL : VlI r pp qq gf gp w) :
    Calls Tryz.prog 79 #[.func (.func 77) #[] #[.pointer (some ⟨gf, 0, none⟩), .pointer (some ⟨gp, 0, none⟩)], .func (.func 81) #[] #[]] w fun e w' => e = .returned (.tuple #[.agg #[.int .i64 (optV (pvAll gtV r pp qq)).n, .int .i64 (optV (pvAll gtV r pp qq)).x, .int .i64 (optV (pvAll gtV r pp qq)).y], .bool (pvAll gtV r pp qq).isSome]) ∧ Below w.heap.size w w' := by
  have hlt := fun a b W => gtV_any a b W
  have hgf : gf < w.heap.size := Blk.lt hL.1
  have hgp : gp < w.heap.size := hL.2.lt
  refine (callsIn_wide (n := 9)).1 ?_
  refine callsIn_of_wp_marks Tryz.func79 rfl trivial ?_ rfl
  simp only [Tryz.ntmps79, List.size_toArray, List.length_cons, List.length_nil, Nat.reduceAdd, Nat.reduceSub, Array.replicate_succ, Array.replicate_zero, List.push_toArray, List.append_toArray, List.nil_append, List.cons_append]
  refine wpIn_wide.2 ?_
  have hst : ∀ (a : Addr) (fn : Fn) (b c : Array Value) (m : Mode) (w : World), (store a (.func fn b c) m).run Tryz.prog w = stored Tryz.prog w a (.func fn b c) m := fun _ _ _ _ _ _ => run_store _ _ _ _ _ rfl
  go_wp2_with fail
  obtain ⟨W0, hW0⟩ : ∃ W0, W0 = ((w.alloc (.cells #[.func (.func 81) #[] #[]] 153)).alloc (.cells #[.int .i64 0, .int .i64 0, .int .i64 0] 149)).alloc (.cells #[.bool false] 4) := ⟨_, rfl⟩
  rw [← hW0]
  have hI0 : PickVI 81 gtV r pp qq w 0 W0 := by rw [hW0]; exact ⟨((Blk.new _ _ _).alloc _).alloc _, (Blk.newAt (by simp)).alloc _, Blk.newAt (by simp), (((Below.refl _ _).alloc (Nat.le_refl _) _).alloc (by simp) _).alloc (by simp; omega) _⟩
  have hL0 : VlI r pp qq gf gp W0 := by rw [hW0]; exact ⟨((Blk.alloc hL.1 _).alloc _).alloc _, ((hL.2.alloc _).alloc _).alloc _⟩
  have hsz : W0.heap.size = w.heap.size + 3 := by rw [hW0]; simp
  clear hW0
  refine (wpIn_wide (n := 9)).1 ?_
  refine wp_range rfl (by decide) (gf := 77) (lb := #[.pointer (some ⟨gf, 0, none⟩), .pointer (some ⟨gp, 0, none⟩)]) rfl trivial eg_extreme1
    (extreme1_iter _ r pp qq gf gp (by decide) hr hpp hqq) (fun k vs W ⟨_, _, e⟩ => by rw [e]; rfl)
    (PickVI 81 gtV r pp qq w) (fun _ _ => False) (fun k A B h hc => h.calm hc (by omega)) (fun _ _ _ h _ => h) (fun A B h hc => ⟨calm_blk hc h.1, calm_blk hc h.2⟩) hI0 hL0 ?round ?done ?stop
  case stop => exact fun _ _ _ _ h _ => h.elim
  case done =>
    rintro D W hD ⟨-, k1, k2, hb⟩ hK
    rw [pvTo_all] at k1 k2
    obtain ⟨B, hB⟩ : ∃ B, optV (pvAll gtV r pp qq) = B := ⟨_, rfl⟩
    rw [hB] at k1
    replace hB := Lib.hid hB
    obtain ⟨S, hSo⟩ : ∃ S, (pvAll gtV r pp qq).isSome = S := ⟨_, rfl⟩
    rw [hSo] at k2
    replace hSo := Lib.hid hSo
    go_wp2_with fail
    refine wp_held_np ((fun w' : World => (∀ j, w'.cell? ⟨w.heap.size + 1, j, none⟩ = #[Value.int .i64 B.n, .int .i64 B.x, .int .i64 B.y][j]?) ∧ (∀ j, w'.cell? ⟨w.heap.size + 1 + 1, j, none⟩ = #[Value.bool S][j]?))) (by kernel_rfl) ?_
    have k1d := k1.drew
    have k2d := k2.drew
    have hKd : W.drew.heap[D]? = some (.deferred (some [])) := hK
    replace hb := hb.drew
    clear k1 k2 hK
    generalize W.drew = Wd at *
    have hS : (fun w' : World => (∀ j, w'.cell? ⟨w.heap.size + 1, j, none⟩ = #[Value.int .i64 B.n, .int .i64 B.x, .int .i64 B.y][j]?) ∧ (∀ j, w'.cell? ⟨w.heap.size + 1 + 1, j, none⟩ = #[Value.bool S][j]?)) Wd := ⟨k1d.cell, k2d.cell⟩
    refine held_take (i := 0) (v := ?_) 18 rfl rfl (by kernel_rfl) (by kernel_rfl) (by kernel_rfl) (fun _ _ _ h => h) (Or.inl ⟨by rfl, ?_⟩) hS ?_
    rotate_left 1
    · intro w' hSw
      try dsimp only at hSw
      obtain ⟨q1, q2⟩ := hSw
      go_simp
      all_goals with_reducible rfl
    try simp only [Act.put, List.setIfInBounds_toArray, List.set_cons_zero, List.set_cons_succ]
    refine held_take (i := 1) (v := ?_) 19 rfl rfl (by kernel_rfl) (by kernel_rfl) (by kernel_rfl) (fun _ _ _ h => h) (Or.inl ⟨by rfl, ?_⟩) hS ?_
    rotate_left 1
    · intro w' hSw
      try dsimp only at hSw
      obtain ⟨q1, q2⟩ := hSw
      go_simp
      all_goals with_reducible rfl
    try simp only [Act.put, List.setIfInBounds_toArray, List.set_cons_zero, List.set_cons_succ]
    clear hS
    have k1z := ((k1d.set_ 0 (.int .i64 B.n)).set_ 1 (.int .i64 B.x)).set_ 2 (.int .i64 B.y)
    simp only [List.setIfInBounds_toArray, List.set_cons_zero, List.set_cons_succ] at k1z
    have k2z := ((k2d.far (p := ⟨w.heap.size + 1, 0, none⟩) (by dsimp only; omega) (.int .i64 B.n)).far (p := ⟨w.heap.size + 1, 1, none⟩) (by dsimp only; omega) (.int .i64 B.x)).far (p := ⟨w.heap.size + 1, 2, none⟩) (by dsimp only; omega) (.int .i64 B.y)
    have hbz := ((hb.setCell (p := ⟨w.heap.size + 1, 0, none⟩) (by dsimp only; omega) (.int .i64 B.n)).setCell (p := ⟨w.heap.size + 1, 1, none⟩) (by dsimp only; omega) (.int .i64 B.x)).setCell (p := ⟨w.heap.size + 1, 2, none⟩) (by dsimp only; omega) (.int .i64 B.y)
    have hKz : (((Wd.setCell ⟨w.heap.size + 1, 0, none⟩ (.int .i64 B.n)).setCell ⟨w.heap.size + 1, 1, none⟩ (.int .i64 B.x)).setCell ⟨w.heap.size + 1, 2, none⟩ (.int .i64 B.y)).heap[D]? = some (.deferred (some [])) := (Below.heap_setCell _ _ _ _ (by dsimp only; omega)).trans ((Below.heap_setCell _ _ _ _ (by dsimp only; omega)).trans ((Below.heap_setCell _ _ _ _ (by dsimp only; omega)).trans hKd))
    obtain ⟨wz, hwz⟩ : ∃ x, x = ((Wd.setCell ⟨w.heap.size + 1, 0, none⟩ (.int .i64 B.n)).setCell ⟨w.heap.size + 1, 1, none⟩ (.int .i64 B.x)).setCell ⟨w.heap.size + 1, 2, none⟩ (.int .i64 B.y) := ⟨_, rfl⟩
    rw [← hwz] at k1z k2z hbz hKz
    refine held_one (i := 2) (by kernel_rfl) rfl rfl (fun K hK => ?_)
    obtain ⟨c1, f1, l1⟩ := k1d.rules
    go_simp
    rw [← hwz]
    refine hK _ _ ⟨k1z.cell, k2z.cell⟩ ?_
    clear hK K hwz c1 f1 l1 k1d k2d hb hKd
    try simp only [Act.put, List.setIfInBounds_toArray, List.set_cons_zero, List.set_cons_succ]
    have k1y := k1z.far (p := ⟨w.heap.size + 1 + 1, 0, none⟩) (by dsimp only; omega) (.bool S)
    have k2y := k2z.set_ 0 (.bool S)
    have hby := hbz.setCell (p := ⟨w.heap.size + 1 + 1, 0, none⟩) (by dsimp only; omega) (.bool S)
    have hKy : (wz.setCell ⟨w.heap.size + 1 + 1, 0, none⟩ (.bool S)).heap[D]? = some (.deferred (some [])) := (Below.heap_setCell _ _ _ _ (by dsimp only; omega)).trans hKz
    refine held_one (i := 3) (by kernel_rfl) rfl rfl (fun K hK => ?_)
    obtain ⟨c2, f2, l2⟩ := k2z.rules
    go_simp
    refine hK _ _ ⟨k1y.cell, k2y.cell⟩ ?_
    clear hK K c2 f2 l2 k1z k2z hbz hKz
    generalize wz.setCell ⟨w.heap.size + 1 + 1, 0, none⟩ (.bool S) = wy at *
    refine wpAnyH_done (by kernel_rfl) (noPanic_normal ?_) _
    go_wp2_with fail
    refine ⟨by simp, .inl ⟨_, _, rfl, run_takeDeferred hKy, ?_⟩⟩
    have hpu : Below w.heap.size w (wy.putObj D (.deferred none)) := calm_below (calm_put (B := w.heap.size) _ hKy rfl (by omega)) hby (Nat.le_refl _)
    have k1e := calm_blk (calm_put (B := w.heap.size) (.deferred none) hKy rfl (by omega)) k1y
    have k2e := calm_blk (calm_put (B := w.heap.size) (.deferred none) hKy rfl (by omega)) k2y
    obtain ⟨c1, f1, l1⟩ := k1e.rules
    obtain ⟨c2, f2, l2⟩ := k2e.rules
    refine ⟨.tuple #[.agg #[.int .i64 B.n, .int .i64 B.x, .int .i64 B.y], .bool S], ?_, by rw [hB.out, hSo.out], hpu⟩
    simp [results, Tryz.results79, go_sem, c1, c2]
  case round =>
    rintro l i vs W hW hi ⟨k0, k1, k2, hb⟩ hLi ⟨q, hq, rfl⟩
    gi_wp2_with fail
    refine ⟨(Below.refl _ _).alloc (Nat.le_refl _) _, fun W2 hc => ?_⟩
    have hc3 : Calm W0.heap.size W W2 := (calm_of_below ((Below.refl _ _).alloc (Nat.le_refl _) _) hW).trans hc
    have hst := Lib.hid (pvTo_succ gtV (p := pp) (q := qq) hq)
    have hsm := Lib.hid (pckV_some gtV (pvTo gtV r pp qq i) (vlOf pp qq q))
    generalize vlOf pp qq q = b at *
    have k6 : Blk W2 W.heap.size 149 #[.int .i64 b.n, .int .i64 b.x, .int .i64 b.y] := calm_blk hc (Blk.new _ _ _)
    replace hLi : VlI r pp qq gf gp W2 := ⟨calm_blk hc3 hLi.1, calm_blk hc3 hLi.2⟩
    have hI : PickVI 81 gtV r pp qq w i W2 := PickVI.calm ⟨k0, k1, k2, hb⟩ hc3 (by omega)
    have hsW : W.heap.size < W2.heap.size := by have := hc.1.size; simp at this; omega
    clear hc hc3 k0 k1 k2 hb hI0 hL0 hL
    obtain ⟨k0, k1, k2, hb⟩ := hI
    replace hq := Lib.hid hq
    obtain ⟨o, ho⟩ : ∃ o, pvTo gtV r pp qq i = o := ⟨_, rfl⟩
    rw [ho] at k1 k2 hst hsm
    replace ho := Lib.hid ho
    cases o with
    | none =>
      simp only [Option.isSome_none] at k2
      replace hst : Hid (pvTo gtV r pp qq (i + 1) = some b) := hst
      have hn := NC.refl W0.heap.size W2
      have kz := ((k1.set_ 0 (.int .i64 b.n)).set_ 1 (.int .i64 b.x)).set_ 2 (.int .i64 b.y)
      simp only [List.setIfInBounds_toArray, List.set_cons_zero, List.set_cons_succ] at kz
      obtain ⟨c1, f1, l1⟩ := k1.rules
      obtain ⟨c2, f2, l2⟩ := k2.rules
      obtain ⟨c6, f6, l6⟩ := k6.rules
      gi_wp2_with fail
      refine ⟨fun _ h => (by cases h), ?_⟩
      gi_wp2_with fail
      clear c1 f1 l1 c2 f2 l2 c6 f6 l6
      have hn2 := (((hn.trans (nc_setCell _ ⟨w.heap.size + 1, 0, none⟩ (.int .i64 b.n) (by dsimp only; omega))).trans (nc_setCell _ ⟨w.heap.size + 1, 1, none⟩ (.int .i64 b.x) (by dsimp only; omega))).trans (nc_setCell _ ⟨w.heap.size + 1, 2, none⟩ (.int .i64 b.y) (by dsimp only; omega))).trans (nc_setCell _ ⟨w.heap.size + 1 + 1, 0, none⟩ (.bool true) (by dsimp only; omega))
      have kz0 := (((k0.far (p := ⟨w.heap.size + 1, 0, none⟩) (by dsimp only; omega) (.int .i64 b.n)).far (p := ⟨w.heap.size + 1, 1, none⟩) (by dsimp only; omega) (.int .i64 b.x)).far (p := ⟨w.heap.size + 1, 2, none⟩) (by dsimp only; omega) (.int .i64 b.y)).far (p := ⟨w.heap.size + 1 + 1, 0, none⟩) (by dsimp only; omega) (.bool true)
      have kz1 := kz.far (p := ⟨w.heap.size + 1 + 1, 0, none⟩) (by dsimp only; omega) (.bool true)
      have kz2 := (((k2.far (p := ⟨w.heap.size + 1, 0, none⟩) (by dsimp only; omega) (.int .i64 b.n)).far (p := ⟨w.heap.size + 1, 1, none⟩) (by dsimp only; omega) (.int .i64 b.x)).far (p := ⟨w.heap.size + 1, 2, none⟩) (by dsimp only; omega) (.int .i64 b.y)).set_ 0 (.bool true)
      have hbz := (((hb.setCell (p := ⟨w.heap.size + 1, 0, none⟩) (by dsimp only; omega) (.int .i64 b.n)).setCell (p := ⟨w.heap.size + 1, 1, none⟩) (by dsimp only; omega) (.int .i64 b.x)).setCell (p := ⟨w.heap.size + 1, 2, none⟩) (by dsimp only; omega) (.int .i64 b.y)).setCell (p := ⟨w.heap.size + 1 + 1, 0, none⟩) (by dsimp only; omega) (.bool true)
      have hLz := (((Blk.far hLi.1 (p := ⟨w.heap.size + 1, 0, none⟩) (by dsimp only; omega) (.int .i64 b.n)).far (p := ⟨w.heap.size + 1, 1, none⟩) (by dsimp only; omega) (.int .i64 b.x)).far (p := ⟨w.heap.size + 1, 2, none⟩) (by dsimp only; omega) (.int .i64 b.y)).far (p := ⟨w.heap.size + 1 + 1, 0, none⟩) (by dsimp only; omega) (.bool true)
      have hPz := (((hLi.2.far (p := ⟨w.heap.size + 1, 0, none⟩) (by dsimp only; omega) (.int .i64 b.n)).far (p := ⟨w.heap.size + 1, 1, none⟩) (by dsimp only; omega) (.int .i64 b.x)).far (p := ⟨w.heap.size + 1, 2, none⟩) (by dsimp only; omega) (.int .i64 b.y)).far (p := ⟨w.heap.size + 1 + 1, 0, none⟩) (by dsimp only; omega) (.bool true)
      exact ⟨hn2, ⟨kz0, by rw [hst.out]; exact kz1, by rw [hst.out]; exact kz2, hbz⟩, hLz, hPz⟩
    | some cc =>
      simp only [Option.isSome_some, optV, Option.getD_some] at k1 k2
      obtain ⟨c0, f0, l0⟩ := k0.rules
      obtain ⟨c1, f1, l1⟩ := k1.rules
      obtain ⟨c2, f2, l2⟩ := k2.rules
      obtain ⟨c6, f6, l6⟩ := k6.rules
      gi_wp2_with fail
      refine ⟨trivial, (CallsIn.inRound l (callsIn_wide.2 (hlt b cc _))).mono ?_⟩
      rintro e W5 ⟨rfl, hbel⟩
      clear c0 f0 l0 c1 f1 l1 c2 f2 l2 c6 f6 l6
      have hn : NC W0.heap.size W2 W5 := nc_of_below hbel
      replace k0 := k0.below hbel
      replace k1 := k1.below hbel
      replace k2 := k2.below hbel
      replace k6 := k6.below hbel
      replace hb := hb.trans (hbel.mono hb.size)
      replace hLi : VlI r pp qq gf gp W5 := ⟨Blk.below hLi.1 hbel, hLi.2.below hbel⟩
      clear hbel
      cases hf : gtV b cc with
      | false =>
        replace hst : Hid (pvTo gtV r pp qq (i + 1) = some cc) := by show _ = _; rw [hst.out]; unfold pckV; dsimp only; rw [if_neg (by rw [hf]; simp)]
        replace hf := Lib.hid hf
        gi_wp2_with fail
        exact ⟨hn, ⟨k0, by rw [hst.out]; exact k1, by rw [hst.out]; exact k2, hb⟩, hLi⟩
      | true =>
        replace hst : Hid (pvTo gtV r pp qq (i + 1) = some b) := by show _ = _; rw [hst.out]; unfold pckV; dsimp only; rw [if_pos hf]
        replace hf := Lib.hid hf
        have kz := ((k1.set_ 0 (.int .i64 b.n)).set_ 1 (.int .i64 b.x)).set_ 2 (.int .i64 b.y)
        simp only [List.setIfInBounds_toArray, List.set_cons_zero, List.set_cons_succ] at kz
        obtain ⟨c1, f1, l1⟩ := k1.rules
        obtain ⟨c2, f2, l2⟩ := k2.rules
        obtain ⟨c6, f6, l6⟩ := k6.rules
        gi_wp2_with fail
        clear c1 f1 l1 c2 f2 l2 c6 f6 l6
        have hn2 := (((hn.trans (nc_setCell _ ⟨w.heap.size + 1, 0, none⟩ (.int .i64 b.n) (by dsimp only; omega))).trans (nc_setCell _ ⟨w.heap.size + 1, 1, none⟩ (.int .i64 b.x) (by dsimp only; omega))).trans (nc_setCell _ ⟨w.heap.size + 1, 2, none⟩ (.int .i64 b.y) (by dsimp only; omega))).trans (nc_setCell _ ⟨w.heap.size + 1 + 1, 0, none⟩ (.bool true) (by dsimp only; omega))
        have kz0 := (((k0.far (p := ⟨w.heap.size + 1, 0, none⟩) (by dsimp only; omega) (.int .i64 b.n)).far (p := ⟨w.heap.size + 1, 1, none⟩) (by dsimp only; omega) (.int .i64 b.x)).far (p := ⟨w.heap.size + 1, 2, none⟩) (by dsimp only; omega) (.int .i64 b.y)).far (p := ⟨w.heap.size + 1 + 1, 0, none⟩) (by dsimp only; omega) (.bool true)
        have kz1 := kz.far (p := ⟨w.heap.size + 1 + 1, 0, none⟩) (by dsimp only; omega) (.bool true)
        have kz2 := (((k2.far (p := ⟨w.heap.size + 1, 0, none⟩) (by dsimp only; omega) (.int .i64 b.n)).far (p := ⟨w.heap.size + 1, 1, none⟩) (by dsimp only; omega) (.int .i64 b.x)).far (p := ⟨w.heap.size + 1, 2, none⟩) (by dsimp only; omega) (.int .i64 b.y)).set_ 0 (.bool true)
        have hbz := (((hb.setCell (p := ⟨w.heap.size + 1, 0, none⟩) (by dsimp only; omega) (.int .i64 b.n)).setCell (p := ⟨w.heap.size + 1, 1, none⟩) (by dsimp only; omega) (.int .i64 b.x)).setCell (p := ⟨w.heap.size + 1, 2, none⟩) (by dsimp only; omega) (.int .i64 b.y)).setCell (p := ⟨w.heap.size + 1 + 1, 0, none⟩) (by dsimp only; omega) (.bool true)
        have hLz := (((Blk.far hLi.1 (p := ⟨w.heap.size + 1, 0, none⟩) (by dsimp only; omega) (.int .i64 b.n)).far (p := ⟨w.heap.size + 1, 1, none⟩) (by dsimp only; omega) (.int .i64 b.x)).far (p := ⟨w.heap.size + 1, 2, none⟩) (by dsimp only; omega) (.int .i64 b.y)).far (p := ⟨w.heap.size + 1 + 1, 0, none⟩) (by dsimp only; omega) (.bool true)
        have hPz := (((hLi.2.far (p := ⟨w.heap.size + 1, 0, none⟩) (by dsimp only; omega) (.int .i64 b.n)).far (p := ⟨w.heap.size + 1, 1, none⟩) (by dsimp only; omega) (.int .i64 b.x)).far (p := ⟨w.heap.size + 1, 2, none⟩) (by dsimp only; omega) (.int .i64 b.y)).far (p := ⟨w.heap.size + 1 + 1, 0, none⟩) (by dsimp only; omega) (.bool true)
        exact ⟨hn2, ⟨kz0, by rw [hst.out]; exact kz1, by rw [hst.out]; exact kz2, hbz⟩, hLz, hPz⟩
/-- What region.Extreme says: the least and the greatest value; there is no place. -/
def extE (r : Reg) (p q : Int) : Bnd × Int :=
  match extO (rowsL r) p q with
  | some b => (b, 0)
  | none => (⟨0, 0⟩, 4)
def RetEx (r : Reg) (p q : Int) (w : World) (e : Ending) (w' : World) : Prop :=
  ∃ x y u v : Int, e = .returned (.tuple #[.agg #[.int .i64 (extE r p q).1.lo, .int .i64 (extE r p q).1.hi, .int .i64 x, .int .i64 y, .int .i64 u, .int .i64 v], .int .i64 (extE r p q).2]) ∧ Below w.heap.size w w'
set_option maxRecDepth 100000 in
set_option maxHeartbeats 2000000 in
theorem Extreme_any (r : Reg) (p q : Int) (w : World) (hr : okReg r = true) (hp : -1000 ≤ p ∧ p ≤ 1000) (hq : -1000 ≤ q ∧ q ≤ 1000) :
    Calls Tryz.prog 27 #[.agg (regA r), .agg #[.int .i64 p, .int .i64 q]] w (RetEx r p q w) := by
  have h1 := fun gf gv W h => pickV_ltV r p q gf gv W (okReg_mid hr) hp hq h
  have h2 := fun gf gv W h => pickV_gtV r p q gf gv W (okReg_mid hr) hp hq h
  have hck := fun W => rCheck_any r W
  rw [show chkReg r = 0 from by simp [chkReg, hr]] at hck
  have hw1 := fun W => rwithin_any p (-1000) 1000 W
  have hw2 := fun W => rwithin_any q (-1000) 1000 W
  simp only [decide_eq_true hp] at hw1
  simp only [decide_eq_true hq] at hw2
  have hlo := pv_lo r p q
  have hhi := pv_hi r p q
  obtain ⟨P, hP⟩ : ∃ P, optV (pvAll ltV r p q) = P := ⟨_, rfl⟩
  obtain ⟨Q, hQ⟩ : ∃ Q, optV (pvAll gtV r p q) = Q := ⟨_, rfl⟩
  simp only [hP] at h1
  simp only [hQ] at h2
  rw [hlo.1] at h1
  rw [hhi.1] at h2
  have hval : ∀ b, extO (rowsL r) p q = some b → P.n = b.lo ∧ Q.n = b.hi := by
    intro b hbb
    constructor
    · cases hv : pvAll ltV r p q with
      | none => have := hlo.1; rw [hv, hbb] at this; cases this
      | some c => rw [← hP, hv]; exact hlo.2 c b hv hbb
    · cases hv : pvAll gtV r p q with
      | none => have := hhi.1; rw [hv, hbb] at this; cases this
      | some c => rw [← hQ, hv]; exact hhi.2 c b hv hbb
  clear hP hQ hlo hhi hp hq
  replace hr := Lib.hid hr
  obtain ⟨w1, hw1'⟩ : ∃ w1, w1 = ((w.alloc (.cells (regA r) 42)).alloc (.cells #[.int .i64 p, .int .i64 q] 23)).alloc (.cells #[.int .i64 0, .int .i64 0, .int .i64 0, .int .i64 0, .int .i64 0, .int .i64 0] 74) := ⟨_, rfl⟩
  have k2 : Blk w1 w.heap.size 42 (regA r) := by rw [hw1']; exact ((Blk.new _ _ _).alloc _).alloc _
  have k3 : Blk w1 (w.heap.size + 1) 23 #[.int .i64 p, .int .i64 q] := by rw [hw1']; exact (Blk.newAt (by simp)).alloc _
  have k4 : Blk w1 (w.heap.size + 1 + 1) 74 #[.int .i64 0, .int .i64 0, .int .i64 0, .int .i64 0, .int .i64 0, .int .i64 0] := by rw [hw1']; exact Blk.newAt (by simp)
  have hb : Below w.heap.size w w1 := by rw [hw1']; exact (((Below.refl _ _).alloc (Nat.le_refl _) _).alloc (by simp) _).alloc (by simp; omega) _
  simp only [regA] at hw1' hck ⊢
  cases hx : extO (rowsL r) p q with
  | none =>
    have hE : Hid (extE r p q = (⟨0, 0⟩, 4)) := Lib.hid (by unfold extE; rw [hx])
    rw [hx] at h1
    simp only [Option.isSome_none] at h1
    clear hval h2 hx
    go_enter Tryz.func27, Tryz.ntmps27
    go_upto_region 1 with fail
    rw [← hw1']
    clear hw1'
    have k2c := k2
    simp only [regA] at k2c
    obtain ⟨c2, f2, l2⟩ := k2c.rules
    go_wp2_with fail
    refine (hck _).mono ?_
    rintro e W ⟨rfl, hbel⟩
    clear hck c2 f2 l2 k2c
    replace k3 := k3.below hbel
    replace k4 := k4.below hbel
    replace k2 := k2.below hbel
    replace hb := hb.trans (hbel.mono hb.size)
    clear hbel
    obtain ⟨c3, f3, l3⟩ := k3.rules
    go_wp2_with fail
    refine (hw1 _).mono ?_
    rintro e w' ⟨rfl, rfl⟩
    go_wp2_with fail
    refine (hw2 _).mono ?_
    rintro e w' ⟨rfl, rfl⟩
    clear hw1 hw2 c3 f3 l3
    go_wp2_with fail
    refine (h1 _ _ _ ⟨k2, k3⟩).mono ?_
    rintro e W2 ⟨rfl, hbel⟩
    clear h1
    replace k3 := k3.below hbel
    replace k4 := k4.below hbel
    replace k2 := k2.below hbel
    replace hb := hb.trans (hbel.mono hb.size)
    clear hbel
    have kv := Blk.new W2 149 #[.int .i64 P.n, .int .i64 P.x, .int .i64 P.y]
    have hbel := (Below.refl W2.heap.size W2).alloc (Nat.le_refl _) (.cells #[.int .i64 P.n, .int .i64 P.x, .int .i64 P.y] 149)
    replace k3 := k3.below hbel
    replace k4 := k4.below hbel
    replace k2 := k2.below hbel
    replace hb := hb.trans (hbel.mono hb.size)
    clear hbel
    go_upto_region 8 with fail
    generalize W2.alloc (.cells #[.int .i64 P.n, .int .i64 P.x, .int .i64 P.y] 149) = W3 at *
    have kz := (((((k4.set_ 0 (.int .i64 0)).set_ 1 (.int .i64 0)).set_ 2 (.int .i64 0)).set_ 3 (.int .i64 0)).set_ 4 (.int .i64 0)).set_ 5 (.int .i64 0)
    have bz := (((((hb.setCell (p := ⟨w.heap.size + 1 + 1, 0, none⟩) (by dsimp only; omega) (.int .i64 0)).setCell (p := ⟨w.heap.size + 1 + 1, 1, none⟩) (by dsimp only; omega) (.int .i64 0)).setCell (p := ⟨w.heap.size + 1 + 1, 2, none⟩) (by dsimp only; omega) (.int .i64 0)).setCell (p := ⟨w.heap.size + 1 + 1, 3, none⟩) (by dsimp only; omega) (.int .i64 0)).setCell (p := ⟨w.heap.size + 1 + 1, 4, none⟩) (by dsimp only; omega) (.int .i64 0)).setCell (p := ⟨w.heap.size + 1 + 1, 5, none⟩) (by dsimp only; omega) (.int .i64 0)
    simp only [List.setIfInBounds_toArray, List.set_cons_zero, List.set_cons_succ] at kz
    obtain ⟨wz, hwz⟩ : ∃ x, x = (((((W3.setCell ⟨w.heap.size + 1 + 1, 0, none⟩ (.int .i64 0)).setCell ⟨w.heap.size + 1 + 1, 1, none⟩ (.int .i64 0)).setCell ⟨w.heap.size + 1 + 1, 2, none⟩ (.int .i64 0)).setCell ⟨w.heap.size + 1 + 1, 3, none⟩ (.int .i64 0)).setCell ⟨w.heap.size + 1 + 1, 4, none⟩ (.int .i64 0)).setCell ⟨w.heap.size + 1 + 1, 5, none⟩ (.int .i64 0) := ⟨_, rfl⟩
    rw [← hwz] at kz bz
    obtain ⟨c4, f4, l4⟩ := k4.rules
    go_wp2_with fail
    rw [← hwz]
    clear hwz c4 f4 l4
    obtain ⟨c4, f4, l4⟩ := kz.rules
    exact bodyPost_ret (v := .tuple #[.agg #[.int .i64 0, .int .i64 0, .int .i64 0, .int .i64 0, .int .i64 0, .int .i64 0], .int .i64 4]) (by simp [results, Tryz.results27, go_sem, c4]) rfl ⟨0, 0, 0, 0, by rw [hE.out], bz⟩
  | some bb =>
    have hE : Hid (extE r p q = (bb, 0)) := Lib.hid (by unfold extE; rw [hx])
    obtain ⟨v1, v2⟩ := hval bb hx
    rw [hx] at h1 h2
    simp only [Option.isSome_some] at h1 h2
    obtain ⟨Pn, Px, Py⟩ := P
    obtain ⟨Qn, Qx, Qy⟩ := Q
    dsimp only at v1 v2 h1 h2
    subst v1 v2
    obtain ⟨lo, hi⟩ := bb
    dsimp only at h1 h2
    clear hval hx
    go_enter Tryz.func27, Tryz.ntmps27
    go_upto_region 1 with fail
    rw [← hw1']
    clear hw1'
    have k2c := k2
    simp only [regA] at k2c
    obtain ⟨c2, f2, l2⟩ := k2c.rules
    go_wp2_with fail
    refine (hck _).mono ?_
    rintro e W ⟨rfl, hbel⟩
    clear hck c2 f2 l2 k2c
    replace k3 := k3.below hbel
    replace k4 := k4.below hbel
    replace k2 := k2.below hbel
    replace hb := hb.trans (hbel.mono hb.size)
    clear hbel
    obtain ⟨c3, f3, l3⟩ := k3.rules
    go_wp2_with fail
    refine (hw1 _).mono ?_
    rintro e w' ⟨rfl, rfl⟩
    go_wp2_with fail
    refine (hw2 _).mono ?_
    rintro e w' ⟨rfl, rfl⟩
    clear hw1 hw2 c3 f3 l3
    go_wp2_with fail
    refine (h1 _ _ _ ⟨k2, k3⟩).mono ?_
    rintro e W2 ⟨rfl, hbel⟩
    clear h1
    replace k3 := k3.below hbel
    replace k4 := k4.below hbel
    replace k2 := k2.below hbel
    replace hb := hb.trans (hbel.mono hb.size)
    clear hbel
    have hbel := (Below.refl W2.heap.size W2).alloc (Nat.le_refl _) (.cells #[.int .i64 lo, .int .i64 Px, .int .i64 Py] 149)
    have kv := Blk.new W2 149 #[.int .i64 lo, .int .i64 Px, .int .i64 Py]
    have hg8 := k4.lt
    replace k3 := k3.below hbel
    replace k4 := k4.below hbel
    replace k2 := k2.below hbel
    replace hb := hb.trans (hbel.mono hb.size)
    clear hbel
    go_upto_region 8 with fail
    generalize W2.alloc (.cells #[.int .i64 lo, .int .i64 Px, .int .i64 Py] 149) = W3 at *
    generalize W2.heap.size = g8 at *
    go_wp2_with fail
    refine (h2 _ _ _ ⟨k2, k3⟩).mono ?_
    rintro e W4 ⟨rfl, hbel⟩
    clear h2
    replace kv := kv.below hbel
    replace k3 := k3.below hbel
    replace k4 := k4.below hbel
    replace k2 := k2.below hbel
    replace hb := hb.trans (hbel.mono hb.size)
    clear hbel
    have hbel := (Below.refl W4.heap.size W4).alloc (Nat.le_refl _) (.cells #[.int .i64 hi, .int .i64 Qx, .int .i64 Qy] 149)
    have ku := Blk.new W4 149 #[.int .i64 hi, .int .i64 Qx, .int .i64 Qy]
    have hg4 := k4.lt
    replace kv := kv.below hbel
    replace k3 := k3.below hbel
    replace k4 := k4.below hbel
    replace k2 := k2.below hbel
    replace hb := hb.trans (hbel.mono hb.size)
    clear hbel
    go_upto_region 11 with fail
    generalize W4.alloc (.cells #[.int .i64 hi, .int .i64 Qx, .int .i64 Qy] 149) = W5 at *
    generalize W4.heap.size = g10 at *
    have kz := (((((k4.set_ 0 (.int .i64 lo)).set_ 1 (.int .i64 hi)).set_ 2 (.int .i64 Px)).set_ 3 (.int .i64 Py)).set_ 4 (.int .i64 Qx)).set_ 5 (.int .i64 Qy)
    have bz := (((((hb.setCell (p := ⟨w.heap.size + 1 + 1, 0, none⟩) (by dsimp only; omega) (.int .i64 lo)).setCell (p := ⟨w.heap.size + 1 + 1, 1, none⟩) (by dsimp only; omega) (.int .i64 hi)).setCell (p := ⟨w.heap.size + 1 + 1, 2, none⟩) (by dsimp only; omega) (.int .i64 Px)).setCell (p := ⟨w.heap.size + 1 + 1, 3, none⟩) (by dsimp only; omega) (.int .i64 Py)).setCell (p := ⟨w.heap.size + 1 + 1, 4, none⟩) (by dsimp only; omega) (.int .i64 Qx)).setCell (p := ⟨w.heap.size + 1 + 1, 5, none⟩) (by dsimp only; omega) (.int .i64 Qy)
    obtain ⟨cv, fv, lv⟩ := kv.rules
    obtain ⟨cu, fu, lu⟩ := ku.rules
    generalize W5 = W3 at *
    simp only [List.setIfInBounds_toArray, List.set_cons_zero, List.set_cons_succ] at kz
    obtain ⟨wz, hwz⟩ : ∃ x, x = (((((W3.setCell ⟨w.heap.size + 1 + 1, 0, none⟩ (.int .i64 lo)).setCell ⟨w.heap.size + 1 + 1, 1, none⟩ (.int .i64 hi)).setCell ⟨w.heap.size + 1 + 1, 2, none⟩ (.int .i64 Px)).setCell ⟨w.heap.size + 1 + 1, 3, none⟩ (.int .i64 Py)).setCell ⟨w.heap.size + 1 + 1, 4, none⟩ (.int .i64 Qx)).setCell ⟨w.heap.size + 1 + 1, 5, none⟩ (.int .i64 Qy) := ⟨_, rfl⟩
    rw [← hwz] at kz bz
    obtain ⟨c4, f4, l4⟩ := k4.rules
    go_wp2_with fail
    rw [← hwz]
    clear hwz c4 f4 l4
    obtain ⟨c4, f4, l4⟩ := kz.rules
    exact bodyPost_ret (v := .tuple #[.agg #[.int .i64 lo, .int .i64 hi, .int .i64 Px, .int .i64 Py, .int .i64 Qx, .int .i64 Qy], .int .i64 0]) (by simp [results, Tryz.results27, go_sem, c4]) rfl ⟨Px, Py, Qx, Qy, by rw [hE.out], bz⟩
end Go.Proofs.YtfengddpfeneiaaGreat
