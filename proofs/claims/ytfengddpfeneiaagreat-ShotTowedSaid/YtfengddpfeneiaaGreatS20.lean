/-
  Shots, walks: all delays, one after the other (an iterator with a list of its own).
-/
import Derived.Test.YtfengddpfeneiaaGreatS5
import Derived.Test.YtfengddpfeneiaaGreatI4
import Derived.Test.YtfengddpfeneiaaGreatI2
import Derived.Test.YtfengddpfeneiaaGreatQ10
import Derived.BigRegionIn
import Derived.OwnWalkIn
import Derived.Sort.QuietIn
namespace Go.Proofs.YtfengddpfeneiaaGreat
open Go.RowKit Go.Shelf
set_option linter.unusedSimpArgs false
set_option linter.unusedVariables false
attribute [local go_sem] Oper.semAt_some

theorem wpListIn_make_fullQ {F : Fence} {n : Nat} {P : Program} (w : World) {ops : Array Oper} {rest : List Oper} {o : Oper} {a : Act} {Q : Exit → Act → World → Prop}
    (hg : o.guard = none) (l c : Operand) (t : TypeId) (hop : o.op = Op.makeSlice t l c)
    (base : Nat) (e : TypeId) (i : TypeInfo) (z : Value) (size : Nat) (h1 : P.underlying t = some (.slice e)) (h2 : P.info? e = some i) (h3 : i.zero = some z) (h4 : i.size = size)
    (kl kc : IntKind) (m : Nat) (hl : a.eval l = .int kl (m : Int)) (hc : a.eval c = .int kc (m : Int)) (b2 : i.bytes * m ≤ 281474976710656) (b3 : m ≤ maxLen) (b4 : base ≤ w.heap.size)
    (hK : ∀ w', w'.ownsRow base e size (.slice (some ⟨w.heap.size, 0, none⟩) m m) m (madeCells z.cells (m * size)).toList → w.grownBy w' none → wpListIn F n P ops Q rest (a.put o.dst (.slice (some ⟨w.heap.size, 0, none⟩) m m)) w') :
    wpListIn F n P ops Q (o :: rest) a w := by
  refine wpListIn_plain hg fun K hK' => ?_
  obtain ⟨w', hrun, r1, r2⟩ := run_make_full (P := P) w base t e i z size h1 h2 h3 h4 kl kc m b2 b3 b4
  unfold Oper.wpIn
  refine ⟨?_, ?_⟩
  · simp [Oper.about, hop]
  · rw [Oper.semAt_plain F _ _ (by rw [hop]; intro c hc'; cases hc')]
    simp [execOp, hop, hl, hc, hrun, Result.andThen]
    exact hK' _ _ (hK w' r1 r2)
/-- What the iterator leans on. -/
def AllL (gs : List Gun) (A S : Option Addr) (n c ns cs ga : Nat) (W : World) : Prop :=
  Blk W ga 159 #[.slice A n c] ∧ SlAt W 0 5 (plc S ns cs) A n c gs
theorem AllL.calm {gs : List Gun} {A S : Option Addr} {n c ns cs ga B : Nat} {W W' : World} (h : AllL gs A S n c ns cs ga W) (hc : Calm B W W') : AllL gs A S n c ns cs ga W' := ⟨calm_blk hc h.1, calm_sl hc h.2⟩
theorem AllL.below {gs : List Gun} {A S : Option Addr} {n c ns cs ga : Nat} {W W' : World} (h : AllL gs A S n c ns cs ga W) (hb : Below W.heap.size W W') : AllL gs A S n c ns cs ga W' := ⟨h.1.below hb, h.2.below hb⟩
def AllG (gs : List Gun) (n x k : Nat) (vs : Array Value) (W : World) : Prop :=
  ∃ l, vs = #[.slice (some ⟨x, 0, none⟩) n n] ∧ (allD gs)[k]? = some l ∧ SlAt W 0 1 ivs (some ⟨x, 0, none⟩) n n l
theorem own_keep {w w' : World} {base : Nat} {e : TypeId} {size g n cap : Nat} {xs : List Value} (h : w.ownsRow base e size (.slice (some ⟨g, 0, none⟩) n cap) n xs) (hk : w'.heap[g]? = w.heap[g]?) : w'.ownsRow base e size (.slice (some ⟨g, 0, none⟩) n cap) n xs := by
  refine ⟨h.1, ?_⟩
  rcases h.2 with h2 | ⟨g', cap', cur, hv, hg, hh, r⟩
  · exact .inl h2
  · obtain ⟨rfl, -⟩ : g = g' ∧ cap = cap' := by simpa using hv
    exact .inr ⟨g, cap', cur, hv, hg, hk.trans hh, r⟩
theorem SlAt.setFar {α : Type} {w : World} {B s : Nat} {enc : α → List Value} {b off n c : Nat} {xs : List α} (h : SlAt w B s enc (some ⟨b, off, none⟩) n c xs) {p : Addr} (hp : b ≠ p.block) (u : Value) : SlAt (w.setCell p u) B s enc (some ⟨b, off, none⟩) n c xs := by
  refine ⟨h.1, h.2.1, h.2.2.1, fun hn => ?_⟩
  obtain ⟨b', off', hA, hB, hb, hc⟩ := h.2.2.2 hn
  simp only [Option.some.injEq, Addr.mk.injEq, and_true] at hA
  obtain ⟨rfl, rfl⟩ := hA
  refine ⟨b, off, rfl, hB, by simpa [World.setCell] using hb, fun k x hx j v hv => ?_⟩
  rw [World.cell?_of_block (w := w) (Below.heap_setCell w p u b hp)]
  exact hc k x hx j v hv
set_option maxRecDepth 100000 in
set_option maxHeartbeats 4000000 in
theorem all1_iter (m : Nat) (gs : List Gun) (hgs : ∀ g ∈ gs, gunOk g) (A S : Option Addr) (n c ns cs ga : Nat) (hn : n ≤ 8) (hn1 : 1 ≤ n) :
    IterX Fence.wide m Tryz.prog 135 #[.pointer (some ⟨ga, 0, none⟩)] (allD gs).length (AllG gs n) (AllL gs A S n c ns cs ga) := by
  intro lr J Jx W hJ hJx hY hL h0
  have hnl := Lib.hid hL.2.len
  obtain ⟨i0, hi0, hz0, hz1, hz2⟩ := info_parts Tryz.infoInt
  have hc1 := Lib.hid (show i0.bytes * n ≤ 281474976710656 by rw [hz2]; omega)
  have hc2 := Lib.hid (show n ≤ maxLen by unfold maxLen; omega)
  replace hgs := Lib.hid hgs
  have hga : ga < W.heap.size := hL.1.lt
  refine callsIn_of_wp Tryz.func135 rfl trivial ?_ rfl
  simp only [Tryz.ntmps135, List.size_toArray, List.length_cons, List.length_nil, Nat.reduceAdd, Nat.reduceSub, Array.replicate_succ, Array.replicate_zero, List.push_toArray, List.append_toArray, List.nil_append, List.cons_append]
  obtain ⟨c1, f1, l1⟩ := hL.1.rules
  gi_wp2_with (gi_at_make; refine wpListIn_make_fullQ _ rfl _ _ 36 rfl W.heap.size 3 i0 (.int .i64 0) 1 Tryz.underlying36 hi0 hz0 hz1 _ _ n rfl rfl hc1.out hc2.out (Nat.le_refl _) ?_; intro w2 hown hgrow; (have hb2 : Below W.heap.size W w2 := (Below.refl _ _).grown hgrow (Nat.le_refl _) (fun k e => by cases e)); have hL2 := hL.below hb2; obtain ⟨c2, f2, l2⟩ := hL2.1.rules)
  clear c1 f1 l1 c2 f2 l2 hgrow
  have hJ2 := hJ 0 _ _ h0 ((calm_of_below hb2 (Nat.le_refl _)).x _)
  have hS2 := hL.2.below hb2
  have hSx := hL.2
  have hgw := (hown.lt _ rfl).2
  have hown0 : w2.ownsRow W.heap.size 3 1 (.slice (some ⟨W.heap.size, 0, none⟩) n n) n ((fillTo (lowsD gs) 0 0).map (Value.int .i64)) := by
    rw [fillTo_zero, lowsD_len, hnl.out, List.map_replicate]
    rw [madeCells_int] at hown
    exact hown
  clear hown h0
  gi_loopw [12] (fun i wr => ∃ k : Nat, i = .int .i64 (k : Int) ∧ k ≤ n ∧ wr.ownsRow W.heap.size 3 1 (.slice (some ⟨W.heap.size, 0, none⟩) n n) n ((fillTo (lowsD gs) k 0).map (Value.int .i64)) ∧ Below W.heap.size W wr ∧ J 0 wr) (fun i wr => n - (intOf i).toNat)
  case atStart => exact ⟨0, rfl, Nat.zero_le _, hown0, hb2, hJ2⟩
  case round =>
    clear hown0 hb2 hJ2 hL2 hS2 hgw
    obtain ⟨k, rfl, hk, hown, hb, hJr⟩ := hrel
    have hgw := (hown.lt _ rfl).2
    by_cases hlt : k < n
    · have hk0 : (0 : Int) ≤ (k : Int) := by omega
      have hk1 : (k : Int) < (n : Int) := by omega
      obtain ⟨x, hx⟩ := some_of_lt hnl.out hlt
      have hget := lowsD_at hx
      obtain ⟨bb, oo, hA, -, hbl, e0, e1, e2, e3, e4⟩ := (hSx.below hb).pln hx
      subst hA
      obtain ⟨v0, hcc⟩ := own_cell hown (j := k) (by omega)
      have hfr := hown.frozenAt k
      have hown3 := Lib.hid ((hown.stored k (.int .i64 x.late.lo)).1)
      rw [← List.map_set, fillTo_set hget] at hown3
      have hbz := (hb.alloc hb.size (.cells #[.int .i64 x.vol, .int .i64 x.time, .int .i64 x.late.lo, .int .i64 x.late.hi, .slice S ns cs] 168)).setCell (p := ⟨W.heap.size, k, none⟩) (Nat.le_refl _) (.int .i64 x.late.lo)
      replace hget := Lib.hid hget
      replace hx := Lib.hid hx
      gi_wp2_with fail
      have hsz1 := hb.size
      go_roundw
      case rel =>
        refine ⟨k + 1, by go_num, by omega, ownsRow_below hown3.out ((Below.refl _ _).alloc (Nat.le_refl _) _), (hb.setCell (p := ⟨W.heap.size, k, none⟩) (Nat.le_refl _) _).alloc (by simpa [World.setCell] using hsz1) _, ?_⟩
        exact hJ _ _ _ hJr ((calmX_set wr ⟨W.heap.size, k, none⟩ _ rfl (Nat.le_refl _)).trans (calmX_alloc _ _ (by simpa [World.setCell] using hsz1)))
      case measure => simp [intOf]; omega
    · obtain rfl : k = n := by omega
      rw [fillTo_len 0 (by rw [lowsD_len, hnl.out])] at hown
      have hgsl : ∀ g ∈ gs, g.late.lo ≤ g.late.hi := fun g hg => (hgs.out g hg).2.2.2.2.2.1
      have hfst := allD_first gs hgsl
      have hL3 := hL.below hb
      gi_wp2_with fail
      gi_loopg [6] ((allD gs).length + 1) (fun gk v wr => ∃ (q : Nat) (l : List Int), (allD gs)[q]? = some l ∧ (allD gs).length < gk + q ∧ wr.ownsRow W.heap.size 3 1 (.slice (some ⟨W.heap.size, 0, none⟩) k k) k (l.map (Value.int .i64)) ∧ W.heap.size ≤ wr.heap.size ∧ J q wr ∧ AllL gs A S k c ns cs ga wr)
      case atStart => exact ⟨0, _, hfst, by omega, hown, hb.size, hJr, hL3⟩
      case round =>
        clear hown hb hJr hL3 hfst
        obtain ⟨q, l, hql, hgk, hown, hsz, hJr, hLr⟩ := hrel
        have hgw := (hown.lt _ rfl).2
        have hqn : q < (allD gs).length := (List.getElem?_eq_some_iff.1 hql).1
        have hin := allD_in gs l (List.mem_of_getElem? hql)
        have hnx := allD_next gs hgsl q l hql
        have hll : l.length = k := by rw [hin.1, hnl.out]
        have hSl := SlAt.ownQ (enc := ivs) hown (by omega) l (by rw [flatMap_ivs]) (fun _ => rfl) hll
        obtain ⟨fn, tmps, assign, body, hy, hR⟩ := hY q #[.slice (some ⟨W.heap.size, 0, none⟩) k k] wr hqn hJr hLr ⟨l, rfl, hql, hSl.mono (Nat.zero_le _)⟩
        replace hql := Lib.hid hql
        replace hin := Lib.hid hin
        replace hnx := Lib.hid hnx
        replace hgk := Lib.hid hgk
        clear hSl
        gi_wp2_with fail
        refine ⟨fun h => (by cases h), hR.mono ?_⟩
        rintro e W3 (⟨rfl, hJ3, hL3, hn3⟩ | ⟨rfl, hJx3, -⟩)
        · have hown3 := own_keep hown ((hn3.2 W.heap.size _ (Nat.le_refl _) (Array.getElem?_eq_getElem hgw)).trans (Array.getElem?_eq_getElem hgw).symm)
          have hsz3 : W.heap.size ≤ W3.heap.size := Nat.le_trans hsz hn3.1
          clear hown hJr hLr hR hy hgw
          gi_wp2_with fail
          have hmx0 : mixD gs l k = l := by rw [← hnl.out]; exact mixD_all (by rw [hll, hnl.out])
          rw [← hmx0] at hown3
          have htop0 : topFrom gs l k := topFrom_len (by rw [hnl.out]; exact Nat.le_refl _)
          replace hmx0 := Lib.hid hmx0
          gi_loopw [6] (fun i wr => ∃ p : Nat, i = .int .i64 ((p : Int) - 1) ∧ p ≤ k ∧ wr.ownsRow W.heap.size 3 1 (.slice (some ⟨W.heap.size, 0, none⟩) k k) k ((mixD gs l p).map (Value.int .i64)) ∧ topFrom gs l p ∧ W.heap.size ≤ wr.heap.size ∧ J (q + 1) wr ∧ AllL gs A S k c ns cs ga wr) (fun i wr => (intOf i + 1).toNat)
          case atStart => exact ⟨k, rfl, Nat.le_refl _, hown3, htop0, hsz3, hJ3, hL3⟩
          case round =>
            clear hown3 htop0 hJ3 hL3
            obtain ⟨p, rfl, hp, hown, htop, hsz, hJr, hLr⟩ := hrel
            cases p with
            | zero =>
              have hz : ((0 : Nat) : Int) - 1 = -1 := by omega
              rw [hz]
              have hmiss := nextD_miss gs l htop
              have hqe : q + 1 = (allD gs).length := by
                have := hnx.out
                rw [hmiss] at this
                have h2 := List.getElem?_eq_none_iff.1 this.symm
                omega
              rw [hqe] at hJr
              replace hmiss := Lib.hid hmiss
              clear htop hz
              gi_wp2_with fail
              refine bodyPost_ret (results_none rfl _ _ _) rfl ?_
              exact ⟨⟨_, rfl⟩, .inl hJr⟩
            | succ p =>
              have hz : ((p + 1 : Nat) : Int) - 1 = (p : Int) := by omega
              rw [hz]
              have hp0 : (0 : Int) ≤ (p : Int) := by omega
              have hp1 : (p : Int) < (k : Int) := by omega
              have hpk : p < gs.length := by rw [hnl.out]; omega
              obtain ⟨x, hx⟩ := some_of_lt hnl.out (show p < k by omega)
              obtain ⟨d, hd⟩ := some_of_lt hll (show p < k by omega)
              obtain ⟨bb, oo, hA, -, hbl, e0, e1, e2, e3, e4⟩ := hLr.2.pln hx
              obtain ⟨bW, oW, hAW, -, hbW, -⟩ := hSx.pln hx
              rw [hA] at hAW
              simp only [Option.some.injEq, Addr.mk.injEq, and_true] at hAW
              obtain ⟨rfl, rfl⟩ := hAW
              subst hA
              have hlg : l.length = gs.length := by rw [hll, hnl.out]
              have cd := hown.cellAt p (by omega)
              rw [List.getElem?_map, mixD_at hlg hpk hd] at cd
              simp only [Option.map_some] at cd
              have hfr := hown.frozenAt p
              have hgx := hgs.out x (List.mem_of_getElem? hx)
              have hdx := hin.out.2 p x d hx hd
              obtain ⟨g1, g2, g3, g4, g5, g6, g7⟩ := hgx
              obtain ⟨d1, d2⟩ := hdx
              have hlow := Lib.hid (mixD_lower hlg hx)
              have hrai := Lib.hid (mixD_raise hlg hpk d)
              have hhit := fun h => nextD_hit gs l p x d hx hd h htop
              have htop2 := fun h => topFrom_step htop hx hd h
              rw [hnx.out] at hhit
              replace hhit := Lib.hid hhit
              replace htop2 := Lib.hid htop2
              replace hx := Lib.hid hx
              replace hd := Lib.hid hd
              have u1 := IntWalk.i64_in (d + 1) (by omega)
              have u2 := IntWalk.i64_in ((p : Int) - 1) (by omega)
              clear htop hz
              obtain ⟨c1, f1, l1⟩ := hLr.1.rules
              by_cases hlt9 : d < x.late.hi
              · gi_wp2_with fail
                gi_quiet (fail)
                clear c1 f1 l1 e0 e1 e2 e3 e4 cd hfr
                have hnx2 := hhit.out hlt9
                have hbd := below_drewN (Below.refl wr.heap.size wr) nq
                replace hown := ownsRow_below hown hbd
                replace hLr := hLr.below hbd
                replace hJr := hJ _ _ _ hJr ((calm_of_below hbd hsz).x _)
                replace hsz : W.heap.size ≤ (wr.drewN nq).heap.size := Nat.le_trans hsz hbd.size
                clear hbd
                generalize wr.drewN nq = Wd at *
                have cd := hown.cellAt p (by omega)
                rw [List.getElem?_map, mixD_at hlg hpk hd.out] at cd
                simp only [Option.map_some] at cd
                have hfr := hown.frozenAt p
                have hown3 := (hown.stored p (.int .i64 (d + 1))).1
                rw [← List.map_set, hrai.out] at hown3
                have hL4 : AllL gs (some ⟨bb, oo, none⟩) S k c ns cs ga (Wd.setCell ⟨W.heap.size, p, none⟩ (.int .i64 (d + 1))) := ⟨hLr.1.far (by dsimp only; omega) _, hLr.2.setFar (by dsimp only; omega) _⟩
                have hJ4 := hJ _ _ _ hJr (calmX_set Wd ⟨W.heap.size, p, none⟩ (.int .i64 (d + 1)) rfl (Nat.le_refl _))
                have hsz4 : W.heap.size ≤ (Wd.setCell ⟨W.heap.size, p, none⟩ (.int .i64 (d + 1))).heap.size := by simpa [World.setCell] using hsz
                have hdec : ¬ (p : Int) < 0 := by omega
                replace hnx2 := Lib.hid hnx2
                gi_wp2_with fail
                gi_roundg (gk - 1)
                case measure => have := hgk.out; omega
                case rel => exact ⟨q + 1, _, hnx2.out, by have := hgk.out; omega, hown3, hsz4, hJ4, hL4⟩
              · have hge9 : x.late.hi ≤ d := by omega
                gi_wp2_with fail
                gi_quiet (fail)
                clear c1 f1 l1 e0 e1 e2 e3 e4 cd hfr
                have htp := htop2.out hlt9
                have hbd := below_drewN (Below.refl wr.heap.size wr) nq
                replace hown := ownsRow_below hown hbd
                replace hLr := hLr.below hbd
                replace hJr := hJ _ _ _ hJr ((calm_of_below hbd hsz).x _)
                replace hsz : W.heap.size ≤ (wr.drewN nq).heap.size := Nat.le_trans hsz hbd.size
                clear hbd
                generalize wr.drewN nq = Wd at *
                obtain ⟨b9, o9, hA9, -, -, e0, e1, e2, e3, e4⟩ := hLr.2.pln hx.out
                simp only [Option.some.injEq, Addr.mk.injEq, and_true] at hA9
                obtain ⟨rfl, rfl⟩ := hA9
                obtain ⟨c1, f1, l1⟩ := hLr.1.rules
                obtain ⟨v0, cd⟩ := own_cell hown (j := p) (by omega)
                have hfr := hown.frozenAt p
                have hown3 := (hown.stored p (.int .i64 x.late.lo)).1
                rw [← List.map_set, hlow.out] at hown3
                have hL4 : AllL gs (some ⟨bb, oo, none⟩) S k c ns cs ga (Wd.setCell ⟨W.heap.size, p, none⟩ (.int .i64 x.late.lo)) := ⟨hLr.1.far (by dsimp only; omega) _, hLr.2.setFar (by dsimp only; omega) _⟩
                have hJ4 := hJ _ _ _ hJr (calmX_set Wd ⟨W.heap.size, p, none⟩ (.int .i64 x.late.lo) rfl (Nat.le_refl _))
                have hsz4 : W.heap.size ≤ (Wd.setCell ⟨W.heap.size, p, none⟩ (.int .i64 x.late.lo)).heap.size := by simpa [World.setCell] using hsz
                gi_wp2_with fail
                go_roundw
                case rel => exact ⟨p, rfl, by omega, hown3, htp, hsz4, hJ4, hL4⟩
                case measure => first | (simp [intOf]; done) | (simp [intOf]; omega)
        · gi_wp2_with fail
          go_end0
          exact ⟨⟨_, rfl⟩, .inr hJx3⟩
theorem eg_all1 : Enters Tryz.prog 135 := enters_of Tryz.func135 (by kernel_rfl) rfl
set_option maxRecDepth 100000 in
set_option maxHeartbeats 1000000 in
theorem all_any (A : Option Addr) (n c : Nat) (w : World) :
    Calls Tryz.prog 93 #[.slice A n c] w fun e w' => e = .returned (.func (.func 135) #[] #[.pointer (some ⟨w.heap.size, 0, none⟩)]) ∧ w' = w.alloc (.cells #[.slice A n c] 159) := by
  go_enter Tryz.func93, Tryz.ntmps93
  go_wp2
  go_ret
  exact ⟨rfl, rfl⟩
end Go.Proofs.YtfengddpfeneiaaGreat
