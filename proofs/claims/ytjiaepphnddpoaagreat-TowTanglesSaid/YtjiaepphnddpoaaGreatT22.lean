/-
  Own texts for one claim, joined: R26 L17 Row Row8.
-/
import Derived.ChangeKeysEq
import Derived.Deep.QuietTactic
import Derived.BigQuiet
import Derived.Deep.RegionHeld3
import Derived.StillTailTactics
import Derived.Test.YtjiaepphnddpoaaGreatChecked
import Derived.Shelf.Abstract
import Derived.WalkKit
import Derived.WalkSpells
import Derived.WalkLawsBesides
import Derived.Lib.Hide
import Derived.OrdersHeld
import Derived.StillTail
import Derived.StillTailTactics
import Derived.RangeFuncNested
import Derived.RangeFuncBound
import Derived.RangeFuncCalls
import Derived.RangeFuncLeaves
import Derived.Shelf.Abstract
import Derived.Shelf.RegionOpen
import Derived.OwnWalkIn
import Derived.TacticsInMore
import Derived.LoopNIn
import Derived.LoopIn
import Derived.OrdersIn
import Derived.Deep.Quiet
import Derived.Deep.QuietTactic
import Derived.BigQuiet
import Derived.Deep.AppendLies
import Derived.WalkMore
import Derived.Maps.Own
import Derived.Maps.Views
import Derived.WideKeyPair
import Derived.Carry
import Derived.Deep.RegionHeld3
import Derived.Deep.RegionWith
import Derived.BigRegionIn
import Derived.Deep.AppendLies
import Derived.Deep.QuietTactic
import Derived.LoopN
import Derived.Deep.RegionWith
import Derived.BigQuiet
import Derived.Deep.AppendLies
import Derived.Laws.AppendOwnNone
import Derived.Deep.AppendLies
import Derived.Deep.AppendLies
import Derived.Test.YtjiaepphnddpoaaGreatRows
import Derived.ProofKit
import Derived.OpenShut
import Derived.ShutString
import Derived.ChangeOld
import Derived.Below
import Derived.SizedLaws
import Derived.Deep.Slices
import Derived.Deep.Fields
import Derived.ChangeSame
import Derived.Test.YtjiaepphnddpoaaGreatT01
import Derived.Test.YtjiaepphnddpoaaGreatT02
import Derived.Test.YtjiaepphnddpoaaGreatT03
import Derived.Test.YtjiaepphnddpoaaGreatT04
import Derived.Test.YtjiaepphnddpoaaGreatT05
import Derived.Test.YtjiaepphnddpoaaGreatT06
import Derived.Test.YtjiaepphnddpoaaGreatT07
import Derived.Test.YtjiaepphnddpoaaGreatT08
import Derived.Test.YtjiaepphnddpoaaGreatT09
import Derived.Test.YtjiaepphnddpoaaGreatT10
import Derived.Test.YtjiaepphnddpoaaGreatT11
import Derived.Test.YtjiaepphnddpoaaGreatT12
import Derived.Test.YtjiaepphnddpoaaGreatT13
import Derived.Test.YtjiaepphnddpoaaGreatT14
import Derived.Test.YtjiaepphnddpoaaGreatT15
import Derived.Test.YtjiaepphnddpoaaGreatT16
import Derived.Test.YtjiaepphnddpoaaGreatT17
import Derived.Test.YtjiaepphnddpoaaGreatT18
import Derived.Test.YtjiaepphnddpoaaGreatT19
import Derived.Test.YtjiaepphnddpoaaGreatT20
import Derived.Test.YtjiaepphnddpoaaGreatT21
namespace Go.Proofs.YtjiaepphnddpoaaGreat
open Go.RowKit Go.Shelf
set_option linter.unusedSimpArgs false
set_option linter.unusedVariables false
attribute [local go_sem] Tryz.run_fieldB
theorem zip_take {α β γ : Type} {f : α → β → γ} {xs : List α} {ys : List β} {k : Nat} {x : α} {y : β} (h1 : xs[k]? = some x) (h2 : ys[k]? = some y) : (List.zipWith f xs ys).take (k + 1) = (List.zipWith f xs ys).take k ++ [f x y] := by
  rw [List.take_add_one]
  simp [List.getElem?_zipWith, h1, h2]
set_option maxRecDepth 100000 in
set_option maxHeartbeats 4000000 in
theorem RTangle_any (L M D : Option Addr) (n c m cm nd cd : Nat) (v : Int) (ds : List StD) (es : List BdD) (ws : List Wat) (w : World) (hL : SpL w L n c ds) (hM : BpL w M m cm es) (hD : SlAt w 0 4 Wat.cells D nd cd ws) :
    Calls Tryz.prog 41 #[.slice L n c, .slice M m cm, .slice D nd cd, .int .i64 v] w fun e w' => e = .returned (.tuple #[.int .i64 (tangR ds es ws v).1, .int .i64 (tangR ds es ws v).2]) ∧ Below w.heap.size w w' := by
  have hdl := Lib.hid hL.1.len
  have hel := Lib.hid hM.1.len
  have hwl := Lib.hid hD.len
  have hsp := fun W h1 h2 => Rspread_any L M n c m cm ds es W h1 h2
  have hwt := fun W h => RWaters_any D nd cd 0 ws W h
  have hbt := fun W => Between_any v 0 32768 W
  have b : Below w.heap.size w w := Below.refl _ _
  have hL0 := hL
  have hM0 := hM
  have hD0 := hD
  cases hs : sprOk ds es with
  | false =>
    have hv : tangR ds es ws v = (0, 36) := by unfold tangR; rw [hs]; rfl
    rw [hv]
    simp only [hs] at hsp
    clear hv hs hbt hwt
    go_enter Tryz.func41, Tryz.ntmps41
    go_wp2_with fail
    refine (hsp _ hL hM).mono ?_
    rintro e W ⟨rfl, hbel⟩
    replace hL := hL.below hbel
    replace hM := hM.below hbel
    replace hD := hD.below hbel
    replace b := b.trans (hbel.mono b.size)
    clear hbel
    go_wp2
    go_ret2
    exact ⟨rfl, b⟩
  | true =>
    simp only [hs] at hsp
    by_cases hc0 : chkWats ws = 0
    · by_cases hvr : 0 ≤ v ∧ v ≤ 32768
      · simp only [decide_eq_true hvr] at hbt
        have hv : Hid (tangR ds es ws v = (tanS ds (es.map (·.bs)) ws v, 0)) := by show _ = _; unfold tangR; rw [hs, if_pos rfl, if_pos hc0, if_pos hvr]
        have hst := okT_start hs
        have hww : okWats ws = true := by unfold chkWats at hc0; split at hc0; assumption; cases hc0
        have hat := Lib.hid (okT_at hst hww)
        have h48 : nd ≤ 48 := by
          have := hww
          unfold okWats at this
          simp only [Bool.and_eq_true, decide_eq_true_eq] at this
          have := hwl.out; omega
        have hwok : Hid (∀ x ∈ ws, okBnd 100 x.acr = true) := by
          show ∀ _, _
          intro x hx
          unfold okWats at hww
          simp only [Bool.and_eq_true] at hww
          have := List.all_eq_true.1 hww.2 x hx
          unfold okWat at this
          simp only [Bool.and_eq_true] at this
          exact this.1
        obtain ⟨⟨hl1, hl4⟩, hlm, -⟩ := sprOk_iff hs
        have hnm : m = n := by have := hdl.out; have := hel.out; omega
        subst hnm
        have hn4 : m ≤ 4 := by have := hdl.out; omega
        simp only [hc0] at hwt
        have m1 := sq_bd (a := v) (A := 32768) (by omega) (by omega)
        have u1 := IntWalk.i64_in (v * v) (by omega)
        clear hs hst hww hc0 hvr hl1 hl4 hlm m1
        obtain ⟨bss, hbss⟩ : ∃ q, es.map (·.bs) = q := ⟨_, rfl⟩
        rw [hbss] at hv hat
        obtain ⟨is, ish, is0, is1, is2⟩ := info_parts Tryz.infoBs
        go_enter Tryz.func41, Tryz.ntmps41
        go_wp2_with fail
        refine (hsp _ hL hM).mono ?_
        rintro e W ⟨rfl, hbel⟩
        replace hL := hL.below hbel
        replace hM := hM.below hbel
        replace hD := hD.below hbel
        replace b := b.trans (hbel.mono b.size)
        clear hbel
        go_wp2_with fail
        refine (hwt _ hD).mono ?_
        rintro e W ⟨rfl, hbel⟩
        replace hL := hL.below hbel
        replace hM := hM.below hbel
        replace hD := hD.below hbel
        replace b := b.trans (hbel.mono b.size)
        clear hbel
        go_wp2_with fail
        refine (hbt _).mono ?_
        rintro e w' ⟨rfl, rfl⟩
        clear hsp hwt hbt hL hD
        go_wp2_with fail
        go_loopw [1, 11] (fun vb j wr => ∃ q : Nat, ∃ O, ∃ c' : Nat, ∃ fs : List BdD, j = .int .i64 q ∧ q ≤ nd ∧ vb = .slice O m c' ∧ BpL wr O m c' fs ∧ fs.map (·.bs) = stAt ds bss ws q ∧ noneB (fun j => hitJ ds v (stAt ds bss ws j)) q ∧ Below w.heap.size w wr) (fun vb j wr => nd + 1 - (intOf j).toNat)
        case atStart => exact ⟨0, M, cm, es, rfl, Nat.zero_le _, rfl, hM, hbss, (fun j hj => absurd hj (Nat.not_lt_zero _)), b⟩
        case round =>
          obtain ⟨q, O, c', fs, rfl, hq, rfl, hfs, hmap, hno, hb⟩ := hrel
          have hfl := Lib.hid hfs.1.len
          replace hno := Lib.hid hno
          have hok := Lib.hid (hat.out q)
          replace hmap := Lib.hid hmap
          obtain ⟨cur, hcur⟩ : ∃ x, stAt ds bss ws q = x := ⟨_, rfl⟩
          rw [hcur] at hmap hok
          obtain ⟨w0, hw0⟩ : ∃ x, x = wr := ⟨_, rfl⟩
          rw [← hw0]
          rw [← hw0] at hfs hb
          clear hw0 b hM
          have b := hb
          clear hb
          go_wp2_with fail
          go_loopw [12] (fun ai wr => ∃ a : Nat, ai = .int .i64 a ∧ a ≤ m ∧ (∀ a', a' < a → ∀ k, k < a' → pairH ds cur v a' k = false) ∧ Below w0.heap.size w0 wr) (fun ai wr => m - (intOf ai).toNat)
          case atStart => exact ⟨0, rfl, Nat.zero_le _, (fun a' h => absurd h (Nat.not_lt_zero _)), Below.refl _ _⟩
          case round =>
            obtain ⟨a, rfl, ha, hpr, hb⟩ := hrel
            replace hpr := Lib.hid hpr
            by_cases hlt : a < m
            · have ha1 : (a : Int) < (m : Int) := by omega
              obtain ⟨d1, hd1⟩ := some_of_lt hdl.out hlt
              obtain ⟨e1, he1⟩ := some_of_lt hfl.out hlt
              have hd1 := Lib.hid hd1
              have he1 := Lib.hid he1
              have hLr := Lib.hid ((hL0.below b).below hb)
              have hfr := Lib.hid (hfs.below hb)
              clear hfs
              obtain ⟨w1, hw1⟩ : ∃ x, x = wr := ⟨_, rfl⟩
              rw [← hw1]
              rw [← hw1] at hLr hfr hb
              clear hw1
              go_wp2_with fail
              go_loopw [13] (fun ki wr => ∃ k : Nat, ki = .int .i64 k ∧ k ≤ a ∧ (∀ k', k' < k → pairH ds cur v a k' = false) ∧ Below w1.heap.size w1 wr) (fun ki wr => a - (intOf ki).toNat)
              case atStart => exact ⟨0, rfl, Nat.zero_le _, (fun a' h => absurd h (Nat.not_lt_zero _)), Below.refl _ _⟩
              case round =>
                obtain ⟨k, rfl, hk, hpk, hb2⟩ := hrel
                replace hpk := Lib.hid hpk
                by_cases hka : k < a
                · have hk1 : (k : Int) < (a : Int) := by omega
                  obtain ⟨d2, hd2⟩ := some_of_lt hdl.out (show k < m by omega)
                  obtain ⟨e2, he2⟩ := some_of_lt hfl.out (show k < m by omega)
                  have hap := fun W h1 h2 => Rapproach_any L O m c m c' a k ds fs d1 d2 e1 e2 W h1 h2 hd1.out he1.out hd2 he2 (errB_ofP (okT_ok hok.out hmap.out hd1.out he1.out)) (errB_ofP (okT_ok hok.out hmap.out hd2 he2))
                  rw [← nAt_eq hmap.out hd1.out he1.out, ← nAt_eq hmap.out hd2 he2] at hap
                  have hph : Hid (pairH ds cur v a k = decide ((appS (nAt ds cur a) (nAt ds cur k)).lo < v * v)) := rfl
                  have hx1 := hLr.out.below hb2
                  have hx2 := hfr.out.below hb2
                  generalize appS (nAt ds cur a) (nAt ds cur k) = V at *
                  clear hd2 he2
                  go_wp2_with fail
                  refine (hap _ hx1 hx2).mono ?_
                  rintro e W3 ⟨rfl, hbel⟩
                  clear hap hx1 hx2
                  have hb3 := hb2.trans (hbel.mono hb2.size)
                  clear hbel
                  by_cases hV : V.lo < v * v
                  · have hpt : Hid (pairH ds cur v a k = true) := by show _ = _; rw [hph.out]; exact decide_eq_true hV
                    have hhit : Hid (tanS ds bss ws v = q) := by
                      show _ = _
                      unfold tanS
                      refine fstN_first hno.out ?_ _ (by have := hwl.out; omega)
                      show hitJ ds v (stAt ds bss ws q) = true
                      rw [hcur]
                      exact hit_true (by have := hdl.out; omega) hka hpt.out
                    replace hV := hV
                    go_wp2
                    go_ret2
                    exact ⟨by rw [hv.out, hhit.out]; rfl, (b.trans (hb.mono b.size)).trans (hb3.mono (Nat.le_trans b.size hb.size))⟩
                  · have hpt : Hid (pairH ds cur v a k = false) := by show _ = _; rw [hph.out]; exact decide_eq_false hV
                    go_wp2_with fail
                    go_roundw
                    case rel =>
                      refine ⟨k + 1, by go_num, by omega, ?_, hb3⟩
                      intro k' hk'
                      by_cases e : k' < k
                      · exact hpk.out k' e
                      · obtain rfl : k' = k := by omega
                        exact hpt.out
                    case measure => simp [intOf]; omega
                · obtain rfl : k = a := by omega
                  go_wp2_with fail
                  go_roundw
                  case rel =>
                    refine ⟨k + 1, by go_num, by omega, ?_, hb.trans (hb2.mono hb.size)⟩
                    intro a' ha'
                    by_cases e : a' < k
                    · exact hpr.out a' e
                    · obtain rfl : a' = k := by omega
                      exact hpk.out
                  case measure => simp [intOf]; omega
            · obtain rfl : m = a := by omega
              have hnh : Hid (hitJ ds v (stAt ds bss ws q) = false) := by
                show _ = _
                rw [hcur]
                exact hit_false (fun a' h => hpr.out a' (by have := hdl.out; omega))
              have hno2 := Lib.hid (noneB_succ hno.out hnh.out)
              replace hfs := hfs.below hb
              replace b := b.trans (hb.mono b.size)
              by_cases hqd : q = nd
              · have hnone : Hid (tanS ds bss ws v = -1) := by
                  show _ = _
                  unfold tanS
                  rw [fstN_none]
                  intro t ht
                  exact hno2.out t (by have := hwl.out; omega)
                subst hqd
                go_wp2
                go_ret2
                exact ⟨by rw [hv.out, hnone.out]; rfl, b⟩
              · have hqe : ((q : Int) == (nd : Int)) = false := by rw [beq_eq_false_iff_ne]; omega
                have hq1 : (q : Int) < (nd : Int) := by omega
                have hq0 : (0 : Int) ≤ (q : Int) := by omega
                obtain ⟨x, hx⟩ := some_of_lt hwl.out (show q < nd by omega)
                have hxo := hwok.out x (List.mem_of_getElem? hx)
                have hnxt := Lib.hid (stAt_succ ds bss hx)
                have hLr := Lib.hid (hL0.below b)
                have hDr := hD0.below b
                obtain ⟨bD, oD, hDA, -, hbD, y0, y1, -, -⟩ := hDr.wat hx
                subst hDA
                have hx := Lib.hid hx
                rw [hcur] at hnxt
                clear hb hDr
                obtain ⟨w2, hw2⟩ : ∃ x, x = wr := ⟨_, rfl⟩
                rw [← hw2]
                rw [← hw2] at hLr hfs b y0 y1 hbD
                clear hw2
                go_wp2_with fail
                go_loopw [14, 15] (fun vo ki wr => ∃ k : Nat, ∃ gs : List BdD, ki = .int .i64 k ∧ k ≤ m ∧ wr.ownsRow w2.heap.size 27 1 vo k (gs.flatMap BdD.cells) ∧ gs.length = k ∧ gs.map (·.bs) = (stepB ds cur x.acr).take k ∧ (∀ f ∈ gs, BdOk wr f ∧ ∀ g, vo.ownBlock = some g → OffA g f.O f.n) ∧ Below w2.heap.size w2 wr) (fun vo ki wr => m - (intOf ki).toNat)
                case atStart => exact ⟨0, [], rfl, Nat.zero_le _, ⟨rfl, .inl ⟨rfl, rfl⟩⟩, rfl, rfl, (fun f hf => absurd hf List.not_mem_nil), Below.refl _ _⟩
                case round =>
                  obtain ⟨k, gs, rfl, hk, hown, hgl, hgm, hgo, hb⟩ := hrel
                  replace hgl := Lib.hid hgl
                  replace hgm := Lib.hid hgm
                  replace hgo := Lib.hid hgo
                  by_cases hlt : k < m
                  · have hk0 : (0 : Int) ≤ (k : Int) := by omega
                    have hk1 : (k : Int) < (m : Int) := by omega
                    obtain ⟨d, hd⟩ := some_of_lt hdl.out hlt
                    obtain ⟨e, he⟩ := some_of_lt hfl.out hlt
                    have hde := okT_ok hok.out hmap.out hd he
                    obtain ⟨bL, oL, hA, -, hbL, z0, z1, z2, z3, z4⟩ := hLr.out.1.std hd
                    obtain ⟨bM, oM, hB, -, hbM, x0⟩ := hfs.1.bdd he
                    have hsd : StOk w2 d := hLr.out.2 d (List.mem_of_getElem? hd)
                    have hsb : BdOk w2 e := hfs.2 e (List.mem_of_getElem? he)
                    unfold StOk at hsd
                    unfold BdOk at hsb
                    have hdn : d.n = e.n := by have := okOffs_len hde.2; have := hsd.len; have := hsb.len; omega
                    have hcl := fun W h1 h2 => Renclose_any d.s d.A e.O d.n d.c e.c 0 0 e.bs x.acr W hde.1 hde.2 hxo h1 h2
                    have hzt : Hid ((stepB ds cur x.acr).take (k + 1) = (stepB ds cur x.acr).take k ++ [encL d.s e.bs x.acr]) := by
                      show _ = _
                      unfold stepB
                      exact zip_take hd (by rw [← hmap.out, List.getElem?_map, he]; rfl)
                    have hu14 : ∀ g, u14.ownBlock = some g → w2.heap.size ≤ g ∧ g < wr.heap.size := fun g e => hown.lt g e
                    subst hA
                    subst hB
                    rw [← hdn] at x0 hsb
                    replace hd := Lib.hid hd
                    replace he := Lib.hid he
                    clear hdn
                    have hbig1 : Hid (k + 1 ≤ maxLen) := by show k + 1 ≤ maxLen; unfold maxLen; omega
                    have hbig2 : Hid ((k + 1) * 24 ≤ 140737488355328) := by show (k + 1) * 24 ≤ 140737488355328; omega
                    go_wp2_with fail
                    refine wp_held_np (fun w' : World => w'.cell? ⟨bL, oL + k * 5, none⟩ = some (.int .i64 d.s.head) ∧ w'.cell? ⟨bL, oL + k * 5 + 1, none⟩ = some (.slice d.A d.n d.c) ∧ w'.cell? ⟨bL, oL + k * 5 + 2, none⟩ = some (.int .i64 d.s.lane.lo) ∧ w'.cell? ⟨bL, oL + k * 5 + 3, none⟩ = some (.int .i64 d.s.lane.hi) ∧ w'.cell? ⟨bL, oL + k * 5 + 4, none⟩ = some (.int .i64 d.s.bend) ∧ w'.cell? ⟨bM, oM + k, none⟩ = some (.slice e.O d.n e.c) ∧ w'.cell? ⟨bD, oD + q * 4, none⟩ = some (.int .i64 x.acr.lo) ∧ w'.cell? ⟨bD, oD + q * 4 + 1, none⟩ = some (.int .i64 x.acr.hi)) (by kernel_rfl) ?_
                    have hSb : Hid (∀ W', Below w2.heap.size w2 W' → (fun w' : World => w'.cell? ⟨bL, oL + k * 5, none⟩ = some (.int .i64 d.s.head) ∧ w'.cell? ⟨bL, oL + k * 5 + 1, none⟩ = some (.slice d.A d.n d.c) ∧ w'.cell? ⟨bL, oL + k * 5 + 2, none⟩ = some (.int .i64 d.s.lane.lo) ∧ w'.cell? ⟨bL, oL + k * 5 + 3, none⟩ = some (.int .i64 d.s.lane.hi) ∧ w'.cell? ⟨bL, oL + k * 5 + 4, none⟩ = some (.int .i64 d.s.bend) ∧ w'.cell? ⟨bM, oM + k, none⟩ = some (.slice e.O d.n e.c) ∧ w'.cell? ⟨bD, oD + q * 4, none⟩ = some (.int .i64 x.acr.lo) ∧ w'.cell? ⟨bD, oD + q * 4 + 1, none⟩ = some (.int .i64 x.acr.hi)) W') := by
                      show ∀ _, _
                      intro W' hb
                      exact ⟨(hb.cell (p := ⟨bL, oL + k * 5, none⟩) hbL).trans z0, (hb.cell (p := ⟨bL, oL + k * 5 + 1, none⟩) hbL).trans z1, (hb.cell (p := ⟨bL, oL + k * 5 + 2, none⟩) hbL).trans z2, (hb.cell (p := ⟨bL, oL + k * 5 + 3, none⟩) hbL).trans z3, (hb.cell (p := ⟨bL, oL + k * 5 + 4, none⟩) hbL).trans z4, (hb.cell (p := ⟨bM, oM + k, none⟩) hbM).trans x0, (hb.cell (p := ⟨bD, oD + q * 4, none⟩) hbD).trans y0, (hb.cell (p := ⟨bD, oD + q * 4 + 1, none⟩) hbD).trans y1⟩
                    have hb9 : Below w2.heap.size w2 wr.drew := hb.drew
                    have hS := hSb.out _ hb9
                    replace hown : wr.drew.ownsRow _ _ _ _ _ _ := hown
                    have hbw : Below wr.heap.size wr wr.drew := (Below.refl _ _).drew
                    generalize wr.drew = wd at *
                    refine held_take (i := 0) (v := ?_) 62 rfl rfl (by kernel_rfl) (by kernel_rfl) (by kernel_rfl) (fun _ _ _ h => h) (Or.inl ⟨by rfl, ?_⟩) hS ?_
                    rotate_left 1
                    · intro w' hSw
                      try dsimp only at hSw
                      obtain ⟨z0, z1, z2, z3, z4, x0, y0, y1⟩ := hSw
                      go_simp
                      all_goals with_reducible rfl
                    try simp only [Act.put, List.setIfInBounds_toArray, List.set_cons_zero, List.set_cons_succ]
                    refine held_take (i := 1) (v := ?_) 63 rfl rfl (by kernel_rfl) (by kernel_rfl) (by kernel_rfl) (fun _ _ _ h => h) (Or.inl ⟨by rfl, ?_⟩) hS ?_
                    rotate_left 1
                    · intro w' hSw
                      try dsimp only at hSw
                      obtain ⟨z0, z1, z2, z3, z4, x0, y0, y1⟩ := hSw
                      go_simp
                      all_goals with_reducible rfl
                    try simp only [Act.put, List.setIfInBounds_toArray, List.set_cons_zero, List.set_cons_succ]
                    refine held_take (i := 2) (v := ?_) 64 rfl rfl (by kernel_rfl) (by kernel_rfl) (by kernel_rfl) (fun _ _ _ h => h) (Or.inl ⟨by rfl, ?_⟩) hS ?_
                    rotate_left 1
                    · intro w' hSw
                      try dsimp only at hSw
                      obtain ⟨z0, z1, z2, z3, z4, x0, y0, y1⟩ := hSw
                      go_simp
                      all_goals with_reducible rfl
                    try simp only [Act.put, List.setIfInBounds_toArray, List.set_cons_zero, List.set_cons_succ]
                    refine held_take (i := 3) (v := ?_) 65 rfl rfl (by kernel_rfl) (by kernel_rfl) (by kernel_rfl) (fun _ _ _ h => h) (Or.inl ⟨by rfl, ?_⟩) hS ?_
                    rotate_left 1
                    · intro w' hSw
                      try dsimp only at hSw
                      obtain ⟨z0, z1, z2, z3, z4, x0, y0, y1⟩ := hSw
                      go_simp
                      all_goals with_reducible rfl
                    try simp only [Act.put, List.setIfInBounds_toArray, List.set_cons_zero, List.set_cons_succ]
                    refine held_take (i := 4) (v := ?_) 66 rfl rfl (by kernel_rfl) (by kernel_rfl) (by kernel_rfl) (fun _ _ _ h => h) (Or.inl ⟨by rfl, ?_⟩) hS ?_
                    rotate_left 1
                    · intro w' hSw
                      try dsimp only at hSw
                      obtain ⟨z0, z1, z2, z3, z4, x0, y0, y1⟩ := hSw
                      go_simp
                      all_goals with_reducible rfl
                    try simp only [Act.put, List.setIfInBounds_toArray, List.set_cons_zero, List.set_cons_succ]
                    refine held_take (i := 5) (v := ?_) 67 rfl rfl (by kernel_rfl) (by kernel_rfl) (by kernel_rfl) (fun _ _ _ h => h) (Or.inl ⟨by rfl, ?_⟩) hS ?_
                    rotate_left 1
                    · intro w' hSw
                      try dsimp only at hSw
                      obtain ⟨z0, z1, z2, z3, z4, x0, y0, y1⟩ := hSw
                      go_simp
                      all_goals with_reducible rfl
                    try simp only [Act.put, List.setIfInBounds_toArray, List.set_cons_zero, List.set_cons_succ]
                    refine held_take (i := 6) (v := ?_) 68 rfl rfl (by kernel_rfl) (by kernel_rfl) (by kernel_rfl) (fun _ _ _ h => h) (Or.inl ⟨by rfl, ?_⟩) hS ?_
                    rotate_left 1
                    · intro w' hSw
                      try dsimp only at hSw
                      obtain ⟨z0, z1, z2, z3, z4, x0, y0, y1⟩ := hSw
                      go_simp
                      all_goals with_reducible rfl
                    try simp only [Act.put, List.setIfInBounds_toArray, List.set_cons_zero, List.set_cons_succ]
                    refine held_take (i := 7) (v := ?_) 69 rfl rfl (by kernel_rfl) (by kernel_rfl) (by kernel_rfl) (fun _ _ _ h => h) (Or.inl ⟨by rfl, ?_⟩) hS ?_
                    rotate_left 1
                    · intro w' hSw
                      try dsimp only at hSw
                      obtain ⟨z0, z1, z2, z3, z4, x0, y0, y1⟩ := hSw
                      go_simp
                      all_goals with_reducible rfl
                    try simp only [Act.put, List.setIfInBounds_toArray, List.set_cons_zero, List.set_cons_succ]
                    refine held_take (i := 8) (v := ?_) 70 rfl rfl (by kernel_rfl) (by kernel_rfl) (by kernel_rfl) (fun _ _ _ h => h) (Or.inl ⟨by rfl, ?_⟩) hS ?_
                    rotate_left 1
                    · intro w' hSw
                      try dsimp only at hSw
                      obtain ⟨z0, z1, z2, z3, z4, x0, y0, y1⟩ := hSw
                      go_simp
                      all_goals with_reducible rfl
                    try simp only [Act.put, List.setIfInBounds_toArray, List.set_cons_zero, List.set_cons_succ]
                    refine held_take (i := 9) (v := ?_) 71 rfl rfl (by kernel_rfl) (by kernel_rfl) (by kernel_rfl) (fun _ _ _ h => h) (Or.inl ⟨by rfl, ?_⟩) hS ?_
                    rotate_left 1
                    · intro w' hSw
                      try dsimp only at hSw
                      obtain ⟨z0, z1, z2, z3, z4, x0, y0, y1⟩ := hSw
                      go_simp
                      all_goals with_reducible rfl
                    try simp only [Act.put, List.setIfInBounds_toArray, List.set_cons_zero, List.set_cons_succ]
                    refine held_take (i := 10) (v := ?_) 72 rfl rfl (by kernel_rfl) (by kernel_rfl) (by kernel_rfl) (fun _ _ _ h => h) (Or.inl ⟨by rfl, ?_⟩) hS ?_
                    rotate_left 1
                    · intro w' hSw
                      try dsimp only at hSw
                      obtain ⟨z0, z1, z2, z3, z4, x0, y0, y1⟩ := hSw
                      go_simp
                      all_goals with_reducible rfl
                    try simp only [Act.put, List.setIfInBounds_toArray, List.set_cons_zero, List.set_cons_succ]
                    refine held_take (i := 11) (v := ?_) 73 rfl rfl (by kernel_rfl) (by kernel_rfl) (by kernel_rfl) (fun _ _ _ h => h) (Or.inl ⟨by rfl, ?_⟩) hS ?_
                    rotate_left 1
                    · intro w' hSw
                      try dsimp only at hSw
                      obtain ⟨z0, z1, z2, z3, z4, x0, y0, y1⟩ := hSw
                      go_simp
                      all_goals with_reducible rfl
                    try simp only [Act.put, List.setIfInBounds_toArray, List.set_cons_zero, List.set_cons_succ]
                    refine held_take (i := 12) (v := ?_) 74 rfl rfl (by kernel_rfl) (by kernel_rfl) (by kernel_rfl) (fun _ _ _ h => h) (Or.inl ⟨by rfl, ?_⟩) hS ?_
                    rotate_left 1
                    · intro w' hSw
                      try dsimp only at hSw
                      obtain ⟨z0, z1, z2, z3, z4, x0, y0, y1⟩ := hSw
                      go_simp
                      all_goals with_reducible rfl
                    try simp only [Act.put, List.setIfInBounds_toArray, List.set_cons_zero, List.set_cons_succ]
                    refine held_take (i := 13) (v := ?_) 75 rfl rfl (by kernel_rfl) (by kernel_rfl) (by kernel_rfl) (fun _ _ _ h => h) (Or.inl ⟨by rfl, ?_⟩) hS ?_
                    rotate_left 1
                    · intro w' hSw
                      try dsimp only at hSw
                      obtain ⟨z0, z1, z2, z3, z4, x0, y0, y1⟩ := hSw
                      go_simp
                      all_goals with_reducible rfl
                    try simp only [Act.put, List.setIfInBounds_toArray, List.set_cons_zero, List.set_cons_succ]
                    refine held_one (i := 14) (by kernel_rfl) rfl rfl (fun K hK => ?_)
                    go_simp
                    refine (hcl _ (hsd.below hb9) (hsb.below hb9)).mono ?_
                    rintro e4 W ⟨P, pc, rfl, r, hbel⟩
                    clear hS hcl
                    replace hown := ownsRow_below hown hbel
                    replace hb9 := hb9.trans (hbel.mono hb9.size)
                    have hwd : wr.heap.size ≤ wd.heap.size := hbw.size
                    replace hbw := hbw.trans (hbel.mono hbw.size)
                    have hS := hSb.out _ hb9
                    refine hK _ _ hS ?_
                    clear hK K hbel
                    try simp only [Act.put, List.setIfInBounds_toArray, List.set_cons_zero, List.set_cons_succ]
                    have hownf := hown.alloc (.cells #[Value.slice P d.n pc] 27)
                    have hbf := hb9.alloc hb9.size (.cells #[Value.slice P d.n pc] 27)
                    have hbwf := hbw.alloc hbw.size (.cells #[Value.slice P d.n pc] 27)
                    have hnews := World.news_of_block (cs := #[Value.slice P d.n pc]) (World.alloc_heap_new W (.cells #[Value.slice P d.n pc] 27))
                    have hr9 := r.alloc (.cells #[Value.slice P d.n pc] 27)
                    have hsW : (W.alloc (.cells #[Value.slice P d.n pc] 27)).heap.size = W.heap.size + 1 := by simp
                    refine held_one (i := 15) (by kernel_rfl) rfl rfl (fun K hK => ?_)
                    go_simp
                    refine hK _ _ (hSb.out _ hbf) ?_
                    clear hK K hS
                    try simp only [Act.put, List.setIfInBounds_toArray, List.set_cons_zero, List.set_cons_succ]
                    refine held_one (i := 16) (by kernel_rfl) rfl rfl (fun K hK => ?_)
                    refine wp_append_lies _ _ _ 71 (by rfl) w2.heap.size 27 is (.slice none 0 0) 1 24 Tryz.underlying71 ish is0 is1 is2 rfl (by omega) u14 k (gs.flatMap BdD.cells) (by rfl) hownf ⟨W.heap.size, 0, none⟩ 1 1 [Value.slice P d.n pc] (by rfl) rfl hnews (by simp [Value.oneCell']) (by omega) hbig1.out hbig2.out hbf.size (W.heap.size + 1) (by simp) ?_
                    intro g cap w7 hown7 hgrow hlies hlt7
                    have hbg : Below w2.heap.size _ w7 := ⟨hgrow.os, hgrow.tape, hgrow.output, hgrow.size, fun b hb2 => hgrow.block b (Nat.lt_of_lt_of_le hb2 hbf.size) (fun e => by have := (hownf.lt _ e.symm).1; omega)⟩
                    have hbh := hbf.trans hbg
                    refine hK _ _ (hSb.out _ hbh) ?_
                    clear hK K
                    have hS := hSb.out _ hbh
                    try simp only [Act.put, List.setIfInBounds_toArray, List.set_cons_zero, List.set_cons_succ]
                    refine held_take (i := 17) (v := ?_) 14 rfl rfl (by kernel_rfl) (by kernel_rfl) (by kernel_rfl) (fun _ _ _ h => h) (Or.inl ⟨by rfl, ?_⟩) hS ?_
                    rotate_left 1
                    · intro w' hSw
                      try dsimp only at hSw
                      obtain ⟨z0, z1, z2, z3, z4, x0, y0, y1⟩ := hSw
                      go_simp
                      all_goals with_reducible rfl
                    try simp only [Act.put, List.setIfInBounds_toArray, List.set_cons_zero, List.set_cons_succ]
                    refine wpAnyH_done (by kernel_rfl) (noPanic_normal ?_) _
                    clear hS hSb
                    go_wp2_with fail
                    go_roundw
                    case rel =>
                      refine ⟨k + 1, gs ++ [⟨encL d.s e.bs x.acr, P, d.n, pc⟩], by go_num, by omega, ?_, by rw [List.length_append, hgl.out]; rfl, ?_, ?_, hbh⟩
                      · rw [List.flatMap_append]; exact hown7
                      · rw [List.map_append, hgm.out, hzt.out]; rfl
                      · have hkeep : ∀ (f : BdD) (B : Nat), SlAt (W.alloc (.cells #[Value.slice P d.n pc] 27)) B 2 Bnd.cells f.O f.n f.c f.bs → (∀ g, u14.ownBlock = some g → OffA g f.O f.n) → BdOk w7 f := by
                          intro f B hf hoff
                          unfold BdOk
                          refine ⟨hf.1, hf.2.1, hf.2.2.1, fun hn => ?_⟩
                          obtain ⟨b1, o1, hA1, hB1, hb1, hc1⟩ := hf.2.2.2 hn
                          refine ⟨b1, o1, hA1, Nat.zero_le _, Nat.lt_of_lt_of_le hb1 hgrow.size, fun k2 x2 hk2 j2 v2 hv2 => ?_⟩
                          refine Eq.trans ?_ (hc1 k2 x2 hk2 j2 v2 hv2)
                          exact cell_eq (hgrow.block b1 hb1 (fun e => hoff b1 e.symm hn b1 o1 hA1 rfl)) _
                        have hoff7 : ∀ (f : BdD) (B : Nat), SlAt (W.alloc (.cells #[Value.slice P d.n pc] 27)) B 2 Bnd.cells f.O f.n f.c f.bs → (∀ g, u14.ownBlock = some g → OffA g f.O f.n) → OffA g f.O f.n := by
                          intro f B hf hoff
                          rcases hlies with h | h
                          · exact hoff g h
                          · subst h; exact OffA.below hf (by omega)
                        intro f hf
                        rcases List.mem_append.1 hf with hf | hf
                        · obtain ⟨h1, h2⟩ := hgo.out f hf
                          unfold BdOk at h1
                          have h1' := (h1.keep hbwf.size (fun p _ hp => hbwf.cell hp))
                          exact ⟨hkeep f 0 h1' h2, fun g2 e2 => by simp only [Value.ownBlock, Option.some.injEq] at e2; subst e2; exact hoff7 f 0 h1' h2⟩
                        · obtain rfl := List.mem_singleton.1 hf
                          have hoP : ∀ g, u14.ownBlock = some g → OffA g P d.n := fun g2 e2 => OffA.above r (by have := hu14 g2 e2; omega)
                          exact ⟨hkeep ⟨_, P, d.n, pc⟩ _ hr9 hoP, fun g2 e2 => by simp only [Value.ownBlock, Option.some.injEq] at e2; subst e2; exact hoff7 ⟨_, P, d.n, pc⟩ _ hr9 hoP⟩
                    case measure => simp [intOf]; omega
                  · obtain rfl : m = k := by omega
                    have hzl : (stepB ds cur x.acr).length = m := by unfold stepB; rw [List.length_zipWith, hok.out.1, hdl.out]; omega
                    rw [List.take_of_length_le (by rw [hzl]; exact Nat.le_refl _)] at hgm
                    obtain ⟨P, pc, rfl, hP⟩ := SlAt.of_own (enc := BdD.cells) hown (by omega) gs rfl (fun _ => rfl) hgl.out
                    clear hown hzl
                    go_wp2_with fail
                    go_roundw
                    case rel =>
                      exact ⟨q + 1, P, pc, gs, by go_num, by omega, rfl, ⟨hP.mono (Nat.zero_le _), fun f hf => (hgo.out f hf).1⟩, by rw [hgm.out, hnxt.out], hno2.out, b.trans (hb.mono b.size)⟩
                    case measure => simp [intOf]; omega
      · have hv : tangR ds es ws v = (0, 7) := by unfold tangR; rw [hs, if_pos rfl, if_pos hc0, if_neg hvr]
        rw [hv]
        simp only [decide_eq_false hvr] at hbt
        simp only [hc0] at hwt
        clear hv hs hvr
        go_enter Tryz.func41, Tryz.ntmps41
        go_wp2_with fail
        refine (hsp _ hL hM).mono ?_
        rintro e W ⟨rfl, hbel⟩
        replace hL := hL.below hbel
        replace hM := hM.below hbel
        replace hD := hD.below hbel
        replace b := b.trans (hbel.mono b.size)
        clear hbel
        go_wp2_with fail
        refine (hwt _ hD).mono ?_
        rintro e W ⟨rfl, hbel⟩
        replace hL := hL.below hbel
        replace hM := hM.below hbel
        replace hD := hD.below hbel
        replace b := b.trans (hbel.mono b.size)
        clear hbel
        go_wp2_with fail
        refine (hbt _).mono ?_
        rintro e w' ⟨rfl, rfl⟩
        go_wp2
        go_ret2
        exact ⟨rfl, b⟩
    · have hv : tangR ds es ws v = (0, chkWats ws) := by unfold tangR; rw [hs, if_pos rfl, if_neg hc0]
      rw [hv]
      obtain ⟨er, her⟩ : ∃ er, chkWats ws = er := ⟨_, rfl⟩
      simp only [her] at *
      have hne : (er != 0) = true := by rw [bne_iff_ne]; exact hc0
      clear hv hs hbt her
      replace hc0 := Lib.hid hc0
      go_enter Tryz.func41, Tryz.ntmps41
      go_wp2_with fail
      refine (hsp _ hL hM).mono ?_
      rintro e W ⟨rfl, hbel⟩
      replace hL := hL.below hbel
      replace hM := hM.below hbel
      replace hD := hD.below hbel
      replace b := b.trans (hbel.mono b.size)
      clear hbel
      go_wp2_with fail
      refine (hwt _ hD).mono ?_
      rintro e W ⟨rfl, hbel⟩
      replace hL := hL.below hbel
      replace hM := hM.below hbel
      replace hD := hD.below hbel
      replace b := b.trans (hbel.mono b.size)
      clear hbel
      go_wp2
      go_ret2
      exact ⟨rfl, b⟩
end Go.Proofs.YtjiaepphnddpoaaGreat
namespace Go.Proofs.YtjiaepphnddpoaaGreat
open Go.RowKit Go.Shelf
set_option linter.unusedSimpArgs false
set_option linter.unusedVariables false
set_option maxRecDepth 100000 in
set_option maxHeartbeats 4000000 in
theorem TowTangles_any (A D : Option Addr) (n c nd cd : Nat) (ts : List TlD) (l : List Wat) (i0 i1 i2 : Int) (w : World) (hnb : n * 80 ≤ 140737488355328) (hA : TlL w A n c ts) (hd : SlAt w 0 4 Wat.cells D nd cd l) :
    Calls Tryz.prog 9 #[.slice A n c, .slice D nd cd, .agg #[.int .i64 i0, .int .i64 i1, .int .i64 i2]] w fun e w' => e = .returned (.bool true) ∧ Below w.heap.size w w' := by
  obtain ⟨w1, hw1⟩ : ∃ w1, w1 = w.alloc (.cells #[.int .i64 i0, .int .i64 i1, .int .i64 i2] 90) := ⟨_, rfl⟩
  have k3 : Blk w1 w.heap.size 90 #[.int .i64 i0, .int .i64 i1, .int .i64 i2] := by rw [hw1]; exact Blk.new _ _ _
  have b : Below w.heap.size w w1 := by rw [hw1]; exact (Below.refl _ _).alloc (Nat.le_refl _) _
  replace hd : SlAt w1 0 4 Wat.cells D nd cd l := by rw [hw1]; exact hd.alloc _
  have hA1 : TlL w1 A n c ts := ⟨hA.1.below b, fun t ht => ⟨SlAt.below (hA.2 t ht).1 b, SlAt.below (hA.2 t ht).2 b⟩⟩
  clear hA
  obtain ⟨ds, hds⟩ : ∃ x, ts.map (·.t) = x := ⟨_, rfl⟩
  obtain ⟨es, hes⟩ : ∃ x, ts.map (·.b) = x := ⟨_, rfl⟩
  have h0 := fun W h => split_any A n c ts W h hnb
  rw [hds, hes] at h0
  have h1 := fun P pc Q qc W h1 h2 => Approach_any P Q n pc n qc i0 i1 ds es W h1 h2
  have h2 := fun P pc Q qc W h1 h2 => RApproach_any P Q n pc n qc i0 i1 ds es W h1 h2
  have h3 := fun P pc Q qc W h1 h2 h3 => Tangle_any P Q D n pc n qc nd cd i2 ds es l W h1 h2 h3
  have h4 := fun P pc Q qc W h1 h2 h3 => RTangle_any P Q D n pc n qc nd cd i2 ds es l W h1 h2 h3
  generalize apprR ds es i0 i1 = V1 at *
  generalize tangR ds es l i2 = V2 at *
  obtain ⟨⟨x1, x2⟩, x3⟩ := V1
  obtain ⟨y1, y2⟩ := V2
  dsimp only at h1 h2 h3 h4
  clear hds hes hnb
  go_enter Tryz.func9, Tryz.ntmps9
  go_wp2_with fail
  rw [← hw1]
  clear hw1
  refine (h0 _ hA1).mono ?_
  rintro e W ⟨P, pc, Q, qc, rfl, hP, hQ, hbel⟩
  clear h0 hA1
  replace k3 := k3.below hbel
  replace b := b.trans (hbel.mono b.size)
  replace hd := hd.below hbel
  clear hbel
  obtain ⟨c3, f3, l3⟩ := k3.rules
  go_wp2_with fail
  clear c3 f3 l3
  refine (h1 _ _ _ _ _ hP hQ).mono ?_
  rintro e W ⟨rfl, hbel⟩
  clear h1
  replace k3 := k3.below hbel
  replace b := b.trans (hbel.mono b.size)
  replace hP := hP.below hbel
  replace hQ := hQ.below hbel
  replace hd := hd.below hbel
  clear hbel
  have k4 := Blk.new W 24 #[.int .i64 x1, .int .i64 x2]
  obtain ⟨c3, f3, l3⟩ := k3.rules
  go_wp2_with fail
  clear c3 f3 l3
  have hbel := (Below.refl W.heap.size W).alloc (Nat.le_refl _) (.cells #[.int .i64 x1, .int .i64 x2] 24)
  replace k3 := k3.below hbel
  replace b := b.trans (hbel.mono b.size)
  replace hP := hP.below hbel
  replace hQ := hQ.below hbel
  replace hd := hd.below hbel
  clear hbel
  generalize W.heap.size = g4 at *
  generalize W.alloc (.cells #[.int .i64 x1, .int .i64 x2] 24) = W4 at *
  obtain ⟨c3, f3, l3⟩ := k3.rules
  obtain ⟨c4, f4, l4⟩ := k4.rules
  try go_wp2_with fail
  clear c3 f3 l3 c4 f4 l4
  refine (h2 _ _ _ _ _ hP hQ).mono ?_
  rintro e W ⟨rfl, hbel⟩
  clear h2
  replace k4 := k4.below hbel
  replace k3 := k3.below hbel
  replace b := b.trans (hbel.mono b.size)
  replace hP := hP.below hbel
  replace hQ := hQ.below hbel
  replace hd := hd.below hbel
  clear hbel
  have k5 := Blk.new W 24 #[.int .i64 x1, .int .i64 x2]
  replace k4 := k4.alloc (.cells #[.int .i64 x1, .int .i64 x2] 24)
  have hbel := (Below.refl W.heap.size W).alloc (Nat.le_refl _) (.cells #[.int .i64 x1, .int .i64 x2] 24)
  replace k3 := k3.below hbel
  replace b := b.trans (hbel.mono b.size)
  replace hP := hP.below hbel
  replace hQ := hQ.below hbel
  replace hd := hd.below hbel
  clear hbel
  obtain ⟨c3, f3, l3⟩ := k3.rules
  obtain ⟨c4, f4, l4⟩ := k4.rules
  obtain ⟨c5, f5, l5⟩ := k5.rules
  go_wp2_with fail
  clear c3 f3 l3 c4 f4 l4 c5 f5 l5
  refine (h3 _ _ _ _ _ hP hQ hd).mono ?_
  rintro e W ⟨rfl, hbel⟩
  clear h3 k4 k5
  replace k3 := k3.below hbel
  replace b := b.trans (hbel.mono b.size)
  replace hP := hP.below hbel
  replace hQ := hQ.below hbel
  replace hd := hd.below hbel
  clear hbel
  obtain ⟨c3, f3, l3⟩ := k3.rules
  go_wp2_with fail
  clear c3 f3 l3
  refine (h4 _ _ _ _ _ hP hQ hd).mono ?_
  rintro e W ⟨rfl, hbel⟩
  clear h4
  replace k3 := k3.below hbel
  replace b := b.trans (hbel.mono b.size)
  replace hP := hP.below hbel
  replace hQ := hQ.below hbel
  replace hd := hd.below hbel
  clear hbel
  go_wp2_with fail
  refine (works_any _).mono ?_
  rintro e W ⟨rfl, hbel⟩
  go_wp2
  go_ret
  exact ⟨rfl, b.trans (hbel.mono b.size)⟩
end Go.Proofs.YtjiaepphnddpoaaGreat
namespace Go.Proofs.YtjiaepphnddpoaaGreat
set_option linter.unusedSimpArgs false
set_option linter.unusedVariables false
open Go.ChangeShapes Go.WideShapes Go.ChangeAt Go.RowKit Go.Deep
section
variable {H : Type} {enc : TypeId × Value → H} {P : Program} {w : World} {base : Nat} {spare : Nat → Bool} {held : Bool}
theorem open_slice_fields {t e : TypeId} {fs : Array Field} {fuel : Nat} {cs : List Value} {x : DataW H × List MemPlace} (ht : P.underlying t = some (.slice e)) (he : P.underlying e = some (.struct fs))
    (hone : oneCellFields P fs = true) (hC : P.cellsOf e = fs.size) (h : DataW.trod enc P w base spare held fuel t cs = some x) :
    (cs = [.slice none 0 0] ∧ x = (.nil, [])) ∨
    ∃ (a : Addr) (len cap m : Nat) (D : Nat → DataW H) (Pl : Nat → List MemPlace), cs = [.slice (some a) len cap] ∧ base ≤ a.block ∧ len ≤ cap ∧ cap ≤ maxLen ∧ m = (if spare a.block then cap else len) ∧
      x = (.slice ((List.range len).map D) ((List.range (m - len)).map fun j => D (len + j)), MemPlace.row a (m * fs.size) ++ (List.range m).flatMap Pl) ∧
      ∀ i, i < m → ∃ (ys : List (DataW H × List MemPlace)) (n : Nat), D i = .agg (ys.map (·.1)) ∧ Pl i = ys.flatMap (·.2) ∧ ys.length = fs.size ∧
        ∀ (j : Nat) (f : Field), fs[j]? = some f → ∃ (v : Value) (y : DataW H × List MemPlace), w.cell? (a.add (i * fs.size + j)) = some v ∧ ys[j]? = some y ∧ DataW.trod enc P w base spare held n f.type [v] = some y := by
  rcases open_slice ht h with h0 | ⟨a, len, cap, m, n, D, Pl, hcs, hb, hl, hm, hmm, hx, hi⟩
  · exact .inl h0
  · refine .inr ⟨a, len, cap, m, D, Pl, hcs, hb, hl, hm, hmm, by rw [hC] at hx; exact hx, fun i him => ?_⟩
    obtain ⟨cs', hc, ht'⟩ := hi i him
    rw [hC] at hc
    obtain ⟨ys, n', hn', hy, hlen, hyl, hf⟩ := DataW.trod_struct he ht'
    obtain ⟨_, hcl, hat⟩ := World.cells?_some hc
    simp only [Prod.mk.injEq] at hy
    refine ⟨ys, n', hy.1, hy.2, hyl, fun j f hj => ?_⟩
    obtain ⟨ho, hk⟩ := hone_of hone j f hj
    have hjl : j < fs.size := (Array.getElem?_eq_some_iff.1 hj).1
    have hcell := hat j hjl
    have hv : cs'[j]? = some (cs'[j]'(by omega)) := List.getElem?_eq_getElem (by omega)
    have h1 := hf j f hj
    rw [ho, hk] at h1
    have hone' : (cs'.drop j).take 1 = [cs'[j]'(by omega)] := by
      rw [List.drop_eq_getElem_cons (by omega)]
      rfl
    rw [hone'] at h1
    have hys : ys[j]? = some (ys[j]'(by omega)) := List.getElem?_eq_getElem (by omega)
    refine ⟨_, _, ?_, hys, h1.trans hys⟩
    rw [← Go.Deep.add_add, hcell, hv]
end
theorem Tryz.cellsSt : Tryz.prog.cellsOf 26 = 5 := by kernel_rfl
theorem Tryz.cellsInt : Tryz.prog.cellsOf 3 = 1 := by kernel_rfl
theorem Tryz.cellsSecs : Tryz.prog.cellsOf 22 = 1 := by kernel_rfl
theorem Tryz.cellsBnd : Tryz.prog.cellsOf 24 = 2 := by kernel_rfl
theorem Tryz.cellsSec : Tryz.prog.cellsOf 94 = 5 := by kernel_rfl
theorem Tryz.bytesSec : Tryz.prog.bytesOf 94 = 40 := by kernel_rfl
theorem add_none (b off n : Nat) : (⟨b, off, none⟩ : Addr).add n = ⟨b, off + n, none⟩ := by unfold Addr.add; split <;> simp_all
theorem reach44 {n k : Nat} (hk : 8 ≤ k) (h : n * k ≤ reachBytes) : n ≤ 17592186044416 := by
  have h1 : n * 8 ≤ n * k := Nat.mul_le_mul_left n hk
  have := reachBytes_lt
  omega
section
variable {H : Type} {enc : TypeId × Value → H} {W : World} {ts : List TypeId} {ds : List (DataW H)}
theorem row_secs {fuel : Nat} {c1 : Value} {x : DataW H × List MemPlace} (h : DataW.trod enc Tryz.prog W 0 (fun _ => true) true fuel 22 [c1] = some x)
    (hr : ∀ elems spare, x.1 = .slice elems spare → (elems.length + spare.length) * 40 ≤ reachBytes) : ∃ a n c xs, c1 = .slice a n c ∧ SlAt W 0 5 Sec.cells a n c xs := by
  rcases open_slice_fields Tryz.underlying22 Tryz.underlying94 (by kernel_rfl) Tryz.cellsSec h with ⟨hcs, _⟩ | ⟨a, len, cap, m, D, Pl, hcs, _, hl, hm, hmm, hx, hi⟩
  · simp at hcs
    subst hcs
    exact ⟨none, 0, 0, [], rfl, SlAt.nil _ _ _ _⟩
  · simp at hcs
    subst hcs
    have hr1 := hr _ _ (by rw [hx])
    simp only [if_true] at hmm
    subst hmm
    have hle : len ≤ 17592186044416 := by
      have := reach44 (show 8 ≤ 40 by omega) hr1
      simp at this
      omega
    have hsec : ∀ i, i < m → ∃ y : Sec, ∀ j v, y.cells[j]? = some v → W.cell? (a.add (i * 5 + j)) = some v := by
      intro i him
      obtain ⟨ys, n', _, _, _, hf⟩ := hi i him
      obtain ⟨u0, y0, hc0, _, ht0⟩ := hf 0 _ rfl
      obtain ⟨v0, e0, _, _⟩ := DataW.trod_int Tryz.underlying3 ht0
      simp at e0
      subst e0
      obtain ⟨u1, y1, hc1, _, ht1⟩ := hf 1 _ rfl
      obtain ⟨v1, e1, _, _⟩ := DataW.trod_int Tryz.underlying3 ht1
      simp at e1
      subst e1
      obtain ⟨u2, y2, hc2, _, ht2⟩ := hf 2 _ rfl
      obtain ⟨v2, e2, _, _⟩ := DataW.trod_int Tryz.underlying3 ht2
      simp at e2
      subst e2
      obtain ⟨u3, y3, hc3, _, ht3⟩ := hf 3 _ rfl
      obtain ⟨v3, e3, _, _⟩ := DataW.trod_int Tryz.underlying3 ht3
      simp at e3
      subst e3
      obtain ⟨u4, y4, hc4, _, ht4⟩ := hf 4 _ rfl
      obtain ⟨v4, e4, _, _⟩ := DataW.trod_int Tryz.underlying3 ht4
      simp at e4
      subst e4
      refine ⟨⟨v0, v1, v2, v3, v4⟩, fun j v hv => ?_⟩
      match j, hv with
      | 0, hv => simp [Sec.cells] at hv; subst hv; simpa using hc0
      | 1, hv => simp [Sec.cells] at hv; subst hv; simpa using hc1
      | 2, hv => simp [Sec.cells] at hv; subst hv; simpa using hc2
      | 3, hv => simp [Sec.cells] at hv; subst hv; simpa using hc3
      | 4, hv => simp [Sec.cells] at hv; subst hv; simpa using hc4
      | q + 5, hv => simp [Sec.cells] at hv
    have hch : ∃ f : Nat → Sec, ∀ i, i < m → ∀ j v, (f i).cells[j]? = some v → W.cell? (a.add (i * 5 + j)) = some v :=
      ⟨fun i => if h : i < m then (hsec i h).choose else ⟨0, 0, 0, 0, 0⟩, fun i h => by simp only [dif_pos h]; exact (hsec i h).choose_spec⟩
    obtain ⟨f, hf⟩ := hch
    refine ⟨some a, len, m, (List.range len).map f, rfl, by simp, hl, hle, fun hn => ?_⟩
    have h0 := hf 0 (by omega) 0 _ rfl
    have hs := World.cell?_spot h0
    obtain ⟨b, off, spot⟩ := a
    have hspot : spot = none := by simpa [Addr.add] using hs
    subst hspot
    refine ⟨b, off, rfl, Nat.zero_le _, World.block_lt_of_cell? W _ (by simpa [Addr.add] using h0), fun k y hk jj v hv => ?_⟩
    have hkn : k < len := by have := (List.getElem?_eq_some_iff.1 hk).1; simpa using this
    have hy : f k = y := by simpa [hkn] using hk
    subst hy
    have := hf k (by omega) jj v hv
    rw [add_none] at this
    exact this
end
end Go.Proofs.YtjiaepphnddpoaaGreat
namespace Go.Proofs.YtjiaepphnddpoaaGreat
open Go.ChangeShapes Go.WideShapes Go.ChangeAt Go.RowKit Go.Deep
set_option linter.unusedSimpArgs false
set_option linter.unusedVariables false
section
variable {H : Type} {enc : TypeId × Value → H} {W : World} {ts : List TypeId} {ds : List (DataW H)}
theorem Tryz.cellsTail : Tryz.prog.cellsOf 29 = 6 := by kernel_rfl
theorem Tryz.cellsBnds : Tryz.prog.cellsOf 27 = 1 := by kernel_rfl
theorem Tryz.bytesBnd : Tryz.prog.bytesOf 24 = 16 := by kernel_rfl
theorem row_bnds {fuel : Nat} {c1 : Value} {x : DataW H × List MemPlace} (h : DataW.trod enc Tryz.prog W 0 (fun _ => true) true fuel 27 [c1] = some x)
    (hr : ∀ elems spare, x.1 = .slice elems spare → (elems.length + spare.length) * 16 ≤ reachBytes) : ∃ a n c xs, c1 = .slice a n c ∧ SlAt W 0 2 Bnd.cells a n c xs := by
  rcases open_slice_fields Tryz.underlying27 Tryz.underlying24 (by kernel_rfl) Tryz.cellsBnd h with ⟨hcs, _⟩ | ⟨a, len, cap, m, D, Pl, hcs, _, hl, hm, hmm, hx, hi⟩
  · simp at hcs
    subst hcs
    exact ⟨none, 0, 0, [], rfl, SlAt.nil _ _ _ _⟩
  · simp at hcs
    subst hcs
    have hr1 := hr _ _ (by rw [hx])
    simp only [if_true] at hmm
    subst hmm
    have hle : len ≤ 17592186044416 := by
      have := reach44 (show 8 ≤ 16 by omega) hr1
      simp at this
      omega
    have hsec : ∀ i, i < m → ∃ y : Bnd, ∀ j v, y.cells[j]? = some v → W.cell? (a.add (i * 2 + j)) = some v := by
      intro i him
      obtain ⟨ys, n', _, _, _, hf⟩ := hi i him
      obtain ⟨u0, y0, hc0, _, ht0⟩ := hf 0 _ rfl
      obtain ⟨v0, e0, _, _⟩ := DataW.trod_int Tryz.underlying3 ht0
      simp at e0
      subst e0
      obtain ⟨u1, y1, hc1, _, ht1⟩ := hf 1 _ rfl
      obtain ⟨v1, e1, _, _⟩ := DataW.trod_int Tryz.underlying3 ht1
      simp at e1
      subst e1
      refine ⟨⟨v0, v1⟩, fun j v hv => ?_⟩
      match j, hv with
      | 0, hv => simp [Bnd.cells] at hv; subst hv; simpa using hc0
      | 1, hv => simp [Bnd.cells] at hv; subst hv; simpa using hc1
      | q + 2, hv => simp [Bnd.cells] at hv
    have hch : ∃ f : Nat → Bnd, ∀ i, i < m → ∀ j v, (f i).cells[j]? = some v → W.cell? (a.add (i * 2 + j)) = some v :=
      ⟨fun i => if h : i < m then (hsec i h).choose else ⟨0, 0⟩, fun i h => by simp only [dif_pos h]; exact (hsec i h).choose_spec⟩
    obtain ⟨f, hf⟩ := hch
    refine ⟨some a, len, m, (List.range len).map f, rfl, by simp, hl, hle, fun hn => ?_⟩
    have h0 := hf 0 (by omega) 0 _ rfl
    have hs := World.cell?_spot h0
    obtain ⟨b, off, spot⟩ := a
    have hspot : spot = none := by simpa [Addr.add] using hs
    subst hspot
    refine ⟨b, off, rfl, Nat.zero_le _, World.block_lt_of_cell? W _ (by simpa [Addr.add] using h0), fun k y hk jj v hv => ?_⟩
    have hkn : k < len := by have := (List.getElem?_eq_some_iff.1 hk).1; simpa using this
    have hy : f k = y := by simpa [hkn] using hk
    subst hy
    have := hf k (by omega) jj v hv
    rw [add_none] at this
    exact this
set_option maxRecDepth 100000 in
theorem row_bnd {fuel : Nat} {c0 c1 : Value} {x : DataW H × List MemPlace} (hf : DataW.trod enc Tryz.prog W 0 (fun _ => true) true fuel 24 [c0, c1] = some x) :
    ∃ b : Bnd, c0 = .int .i64 b.lo ∧ c1 = .int .i64 b.hi := by
  obtain ⟨zs, m, _, _, _, hlen2, hg2⟩ := DataW.trod_struct Tryz.underlying24 hf
  match zs, hlen2 with
  | [z0, z1], _ =>
    have w0 := hg2 0 _ rfl
    have w1 := hg2 1 _ rfl
    simp at w0 w1
    simp only [Tryz.cellsInt] at w0 w1
    simp at w0 w1
    obtain ⟨lo, g0, _, _⟩ := DataW.trod_int Tryz.underlying3 w0
    obtain ⟨hi, g1, _, _⟩ := DataW.trod_int Tryz.underlying3 w1
    simp at g0 g1
    subst g0 g1
    exact ⟨⟨lo, hi⟩, rfl, rfl⟩
set_option maxRecDepth 100000 in
theorem row_strm_of {fuel : Nat} {c0 c1 c2 c3 c4 : Value} {x : DataW H × List MemPlace} (hf : DataW.trod enc Tryz.prog W 0 (fun _ => true) true fuel 26 [c0, c1, c2, c3, c4] = some x)
    (hr : ∀ d0 elems spare d2 d3, x.1 = .agg [d0, .slice elems spare, d2, d3] → (elems.length + spare.length) * 40 ≤ reachBytes) :
    ∃ (s : Strm) (a : Option Addr) (n c : Nat), c0 = .int .i64 s.head ∧ c1 = .slice a n c ∧ c2 = .int .i64 s.lane.lo ∧ c3 = .int .i64 s.lane.hi ∧ c4 = .int .i64 s.bend ∧ SlAt W 0 5 Sec.cells a n c s.secs := by
  obtain ⟨xs, n, _, hx, _, hlen, hg⟩ := DataW.trod_struct Tryz.underlying26 hf
  match xs, hlen with
  | [y0, y1, y2, y3], _ =>
    have hx1 : x.1 = .agg [y0.1, y1.1, y2.1, y3.1] := by rw [hx]; rfl
    have t0 := hg 0 _ rfl
    have t1 := hg 1 _ rfl
    have t2 := hg 2 _ rfl
    have t3 := hg 3 _ rfl
    simp at t0 t1 t2 t3
    simp only [Tryz.cellsInt] at t0
    simp only [Tryz.cellsSecs] at t1
    simp only [Tryz.cellsBnd] at t2
    simp only [Tryz.cellsInt] at t3
    simp at t0 t1 t2 t3
    obtain ⟨hd0, e0, _, _⟩ := DataW.trod_int Tryz.underlying3 t0
    obtain ⟨be, e3, _, _⟩ := DataW.trod_int Tryz.underlying3 t3
    obtain ⟨b, g0, g1⟩ := row_bnd t2
    obtain ⟨a, n', c', secs, rfl, hs⟩ := row_secs (W := W) t1 (fun elems spare he => hr y0.1 elems spare y2.1 y3.1 (by rw [hx1, he]))
    simp at e0 e3
    subst e0 e3 g0 g1
    exact ⟨⟨hd0, secs, b, be⟩, a, n', c', rfl, rfl, rfl, rfl, rfl, hs⟩
end
end Go.Proofs.YtjiaepphnddpoaaGreat
namespace Go.Proofs.YtjiaepphnddpoaaGreat
open Go.ChangeShapes Go.WideShapes Go.ChangeAt Go.RowKit Go.Deep
set_option linter.unusedSimpArgs false
set_option linter.unusedVariables false
section
variable {H : Type} {enc : TypeId × Value → H} {W : World} {ts : List TypeId} {ds : List (DataW H)}
theorem Tryz.cellsWat : Tryz.prog.cellsOf 88 = 4 := by kernel_rfl
theorem Tryz.bytesWat : Tryz.prog.bytesOf 88 = 32 := by kernel_rfl
set_option maxRecDepth 100000 in
theorem row_wats {fuel : Nat} {c1 : Value} {x : DataW H × List MemPlace} (h : DataW.trod enc Tryz.prog W 0 (fun _ => true) true fuel 30 [c1] = some x)
    (hr : ∀ elems spare, x.1 = .slice elems spare → (elems.length + spare.length) * 32 ≤ reachBytes) : ∃ a n c xs, c1 = .slice a n c ∧ SlAt W 0 4 Wat.cells a n c xs := by
  rcases open_slice Tryz.underlying30 h with ⟨hcs, _⟩ | ⟨a, len, cap, m, n, D, Pl, hcs, hb, hl, hm, hmm, hx, hi⟩
  · simp at hcs
    subst hcs
    exact ⟨none, 0, 0, [], rfl, SlAt.nil _ _ _ _⟩
  · simp at hcs
    subst hcs
    have hr1 := hr _ _ (by rw [hx])
    simp only [if_true] at hmm
    subst hmm
    have hle : len ≤ 17592186044416 := by
      have := reach44 (show 8 ≤ 32 by omega) hr1
      simp at this
      omega
    have hsec : ∀ i, i < m → ∃ y : Wat, ∀ j v, y.cells[j]? = some v → W.cell? (a.add (i * 4 + j)) = some v := by
      intro i him
      obtain ⟨cs', hc, ht'⟩ := hi i him
      rw [Tryz.cellsWat] at hc
      obtain ⟨_, hcl, hat⟩ := World.cells?_some hc
      match cs', hcl with
      | [u0, u1, u2, u3], _ =>
        obtain ⟨zs, mm, _, _, _, hlen2, hg2⟩ := DataW.trod_struct Tryz.underlying88 ht'
        match zs, hlen2 with
        | [z0, z1], _ =>
          have w0 := hg2 0 _ rfl
          have w1 := hg2 1 _ rfl
          simp at w0 w1
          simp only [Tryz.cellsBnd] at w0 w1
          simp at w0 w1
          obtain ⟨b0, e0, e1⟩ := row_bnd w0
          obtain ⟨b1, e2, e3⟩ := row_bnd w1
          subst e0 e1 e2 e3
          refine ⟨⟨b0, b1⟩, fun j v hv => ?_⟩
          have hj : j < 4 := (List.getElem?_eq_some_iff.1 hv).1
          have h9 := hat j hj
          rw [← Go.Deep.add_add, h9]
          exact hv
    have hch : ∃ f : Nat → Wat, ∀ i, i < m → ∀ j v, (f i).cells[j]? = some v → W.cell? (a.add (i * 4 + j)) = some v :=
      ⟨fun i => if h : i < m then (hsec i h).choose else ⟨⟨0, 0⟩, ⟨0, 0⟩⟩, fun i h => by simp only [dif_pos h]; exact (hsec i h).choose_spec⟩
    obtain ⟨f, hf⟩ := hch
    refine ⟨some a, len, m, (List.range len).map f, rfl, by simp, hl, hle, fun hn => ?_⟩
    have h0 := hf 0 (by omega) 0 _ rfl
    have hs := World.cell?_spot h0
    obtain ⟨b, off, spot⟩ := a
    have hspot : spot = none := by simpa [Addr.add] using hs
    subst hspot
    refine ⟨b, off, rfl, Nat.zero_le _, World.block_lt_of_cell? W _ (by simpa [Addr.add] using h0), fun k y hk jj v hv => ?_⟩
    have hkn : k < len := by have := (List.getElem?_eq_some_iff.1 hk).1; simpa using this
    have hy : f k = y := by simpa [hkn] using hk
    subst hy
    have := hf k (by omega) jj v hv
    rw [add_none] at this
    exact this
set_option maxRecDepth 100000 in
theorem row_wats_arg {r : Reach} {b0 j : Nat} {v : Value} {d : DataW H} {p : List MemPlace} (hsz : (DataW.weightsEach Tryz.prog ts ds).all (· ≤ reachBytes) = true) (ht : ts[j]? = some 30) (hd : ds[j]? = some d)
    (hv : Value.okWide Tryz.prog W r b0 30 v) (h : DataW.Trod enc Tryz.prog W 0 (fun _ => true) true 30 v d p) :
    ∃ a n c xs, v = .slice a n c ∧ SlAt W 0 4 Wat.cells a n c xs := by
  obtain ⟨a, n, c, rfl⟩ := okWide_slice Tryz.underlying30 hv
  obtain ⟨fuel, hf⟩ := h
  simp [Value.cells] at hf
  exact row_wats hf (fun elems spare he => by
    have := List.all_eq_true.1 hsz _ (DataW.weights_mem_each ht hd ((elems.length + spare.length) * Tryz.prog.bytesOf 88) (by
      dsimp only at he
      rw [he]
      simp [DataW.weights, DataW.weightsEach, Tryz.underlying30]))
    rw [Tryz.bytesWat] at this
    simpa using this)
end
end Go.Proofs.YtjiaepphnddpoaaGreat
namespace Go.Proofs.YtjiaepphnddpoaaGreat
open Go.ChangeShapes Go.WideShapes Go.ChangeAt Go.RowKit Go.Deep
set_option linter.unusedSimpArgs false
set_option linter.unusedVariables false
section
variable {H : Type} {enc : TypeId × Value → H} {W : World} {ts : List TypeId} {ds : List (DataW H)}
end
end Go.Proofs.YtjiaepphnddpoaaGreat
namespace Go.Proofs.YtjiaepphnddpoaaGreat
open Go.ChangeShapes Go.WideShapes Go.ChangeAt Go.RowKit Go.Deep
set_option linter.unusedSimpArgs false
set_option linter.unusedVariables false
section
variable {H : Type} {enc : TypeId × Value → H} {W : World} {ts : List TypeId} {ds : List (DataW H)}
end
end Go.Proofs.YtjiaepphnddpoaaGreat
namespace Go.Proofs.YtjiaepphnddpoaaGreat
open Go.ChangeShapes Go.WideShapes Go.ChangeAt Go.RowKit Go.Deep
set_option linter.unusedSimpArgs false
set_option linter.unusedVariables false
section
variable {H : Type} {enc : TypeId × Value → H} {W : World} {ts : List TypeId} {ds : List (DataW H)}
theorem okWide_array3 {P : Program} {w : World} {r : Reach} {base n : Nat} {t e : TypeId} {v : Value} (ht : P.underlying t = some (.array n e)) (h : Value.okWide P w r base t v) : ∃ cs, v = .agg cs ∧ cs.size = P.cellsOf t := by
  simp only [Value.okWide, ht] at h
  obtain ⟨cs, h1, h2, _⟩ := h
  exact ⟨cs, h1, h2⟩
theorem Tryz.cellsArr3 : Tryz.prog.cellsOf 90 = 3 := by kernel_rfl
theorem Tryz.bytesTail : Tryz.prog.bytesOf 29 = 80 := by kernel_rfl
set_option maxRecDepth 100000 in
theorem row_arr3 {r : Reach} {b0 : Nat} {v : Value} {d : DataW H} {p : List MemPlace} (hv : Value.okWide Tryz.prog W r b0 90 v) (h : DataW.Trod enc Tryz.prog W 0 (fun _ => true) true 90 v d p) :
    ∃ a b c : Int, v = .agg #[.int .i64 a, .int .i64 b, .int .i64 c] := by
  obtain ⟨cs, rfl, hcs⟩ := okWide_array3 Tryz.underlying90 hv
  obtain ⟨l⟩ := cs
  match l, hcs.trans Tryz.cellsArr3 with
  | [c0, c1, c2], _ =>
    obtain ⟨fuel, hf⟩ := h
    obtain ⟨zs, m, _, _, _, hlen2, hg2⟩ := DataW.trod_array Tryz.underlying90 hf
    match zs, hlen2 with
    | [z0, z1, z2], _ =>
      have w0 := hg2 0 (by omega)
      have w1 := hg2 1 (by omega)
      have w2 := hg2 2 (by omega)
      simp [Value.cells] at w0 w1 w2
      simp only [Tryz.cellsInt] at w0 w1 w2
      simp at w0 w1 w2
      obtain ⟨x0, g0, _, _⟩ := DataW.trod_int Tryz.underlying3 w0
      obtain ⟨x1, g1, _, _⟩ := DataW.trod_int Tryz.underlying3 w1
      obtain ⟨x2, g2, _, _⟩ := DataW.trod_int Tryz.underlying3 w2
      simp at g0 g1 g2
      subst g0 g1 g2
      exact ⟨x0, x1, x2, rfl⟩
theorem weights_mem_all {P : Program} {e : TypeId} : ∀ {l : List (DataW H)} {d : DataW H}, d ∈ l → ∀ n ∈ d.weights P e, n ∈ DataW.weightsAll P e l
  | x :: l, d, hd, n, hn => by
    simp only [DataW.weightsAll, List.mem_append]
    rcases List.mem_cons.1 hd with rfl | hd
    · exact .inl hn
    · exact .inr (weights_mem_all hd n hn)
set_option maxRecDepth 100000 in
theorem row_tail_of {fuel : Nat} {cs : List Value} {x : DataW H × List MemPlace} (hf : DataW.trod enc Tryz.prog W 0 (fun _ => true) true fuel 29 cs = some x) (hl : cs.length = 6)
    (hr : ∀ n ∈ x.1.weights Tryz.prog 29, n ≤ reachBytes) : ∃ t : TlD, cs = t.cells ∧ StOk W t.t ∧ BdOk W t.b := by
  match cs, hl with
  | [c0, c1, c2, c3, c4, c5], _ =>
    obtain ⟨xs, n, _, hx, _, hlen, hg⟩ := DataW.trod_struct Tryz.underlying29 hf
    match xs, hlen with
    | [y0, y1], _ =>
      have hx1 : x.1 = .agg [y0.1, y1.1] := by rw [hx]; rfl
      have t0 := hg 0 _ rfl
      have t1 := hg 1 _ rfl
      simp at t0 t1
      simp only [Tryz.cellsSt] at t0
      simp only [Tryz.cellsBnds] at t1
      simp at t0 t1
      obtain ⟨a', n', c', l, rfl, hl⟩ := row_bnds (W := W) t1 (fun elems spare he => by
        have := hr ((elems.length + spare.length) * Tryz.prog.bytesOf 24) (by
          rw [hx1]
          simp [DataW.weights, DataW.weightsEach, Tryz.underlying29, he, Tryz.underlying27])
        rw [Tryz.bytesBnd] at this
        exact this)
      obtain ⟨s, a, n0, c, rfl, rfl, rfl, rfl, rfl, hs⟩ := row_strm_of (W := W) t0 (fun d0 elems spare d2 d3 he => by
        have := hr ((elems.length + spare.length) * Tryz.prog.bytesOf 94) (by
          rw [hx1]
          simp [DataW.weights, DataW.weightsEach, Tryz.underlying29, he, Tryz.underlying26, Tryz.underlying22])
        rw [Tryz.bytesSec] at this
        exact this)
      exact ⟨⟨⟨s, a, n0, c⟩, ⟨l, a', n', c'⟩⟩, rfl, hs, hl⟩
set_option maxRecDepth 100000 in
theorem row_tails {r : Reach} {b0 j : Nat} {v : Value} {d : DataW H} {p : List MemPlace} (hsz : (DataW.weightsEach Tryz.prog ts ds).all (· ≤ reachBytes) = true) (ht : ts[j]? = some 68) (hd : ds[j]? = some d)
    (hv : Value.okWide Tryz.prog W r b0 68 v) (h : DataW.Trod enc Tryz.prog W 0 (fun _ => true) true 68 v d p) :
    ∃ (a : Option Addr) (n c : Nat) (xs : List TlD), v = .slice a n c ∧ n * 80 ≤ 140737488355328 ∧ TlL W a n c xs := by
  obtain ⟨a, n, c, rfl⟩ := okWide_slice Tryz.underlying68 hv
  obtain ⟨fuel, hf⟩ := h
  simp [Value.cells] at hf
  have hall : ∀ q ∈ d.weights Tryz.prog 68, q ≤ reachBytes := fun q hq => of_decide_eq_true (List.all_eq_true.1 hsz _ (DataW.weights_mem_each ht hd q hq))
  rcases open_slice Tryz.underlying68 hf with ⟨hcs, _⟩ | ⟨a, len, cap, m, nn, D, Pl, hcs, _, hl, hm, hmm, hx, hi⟩
  · simp at hcs
    obtain ⟨rfl, rfl, rfl⟩ := hcs
    exact ⟨none, 0, 0, [], rfl, by omega, SlAt.nil _ _ _ _, fun t h => by cases h⟩
  · simp at hcs
    obtain ⟨rfl, rfl, rfl⟩ := hcs
    simp only [if_true] at hmm
    obtain rfl : c = m := hmm.symm
    have hd1 : d = .slice ((List.range n).map D) ((List.range (c - n)).map fun j => D (n + j)) := congrArg Prod.fst hx
    rw [hd1] at hall
    simp only [DataW.weights, Tryz.underlying68] at hall
    have hw0 := hall _ List.mem_cons_self
    rw [Tryz.bytesTail] at hw0
    simp only [List.length_map, List.length_range] at hw0
    unfold reachBytes at hw0
    have hn80 : n * 80 ≤ 140737488355328 := by omega
    have hel : ∀ i, i < c → ∃ t : TlD, StOk W t.t ∧ BdOk W t.b ∧ ∀ j v, t.cells[j]? = some v → W.cell? (a.add (i * 6 + j)) = some v := by
      intro i hic
      obtain ⟨cs', hc, ht'⟩ := hi i hic
      rw [Tryz.cellsTail] at hc
      obtain ⟨_, hcl, hat⟩ := World.cells?_some hc
      obtain ⟨t, rfl, h1, h2⟩ := row_tail_of ht' hcl (fun q hq => by
        refine hall q (List.mem_cons_of_mem _ (List.mem_append.2 ?_))
        by_cases hin : i < n
        · exact .inl (weights_mem_all (List.mem_map.2 ⟨i, List.mem_range.2 hin, rfl⟩) q hq)
        · exact .inr (weights_mem_all (List.mem_map.2 ⟨i - n, List.mem_range.2 (by omega), by rw [show n + (i - n) = i by omega]⟩) q hq))
      refine ⟨t, h1, h2, fun j v hv => ?_⟩
      have hj : j < 6 := (List.getElem?_eq_some_iff.1 hv).1
      rw [← Go.Deep.add_add, hat j hj, hv]
    have hch : ∃ f : Nat → TlD, ∀ i, i < c → StOk W (f i).t ∧ BdOk W (f i).b ∧ ∀ j v, (f i).cells[j]? = some v → W.cell? (a.add (i * 6 + j)) = some v :=
      ⟨fun i => if h : i < c then (hel i h).choose else ⟨⟨⟨0, [], ⟨0, 0⟩, 0⟩, none, 0, 0⟩, ⟨[], none, 0, 0⟩⟩, fun i h => by simp only [dif_pos h]; exact (hel i h).choose_spec⟩
    obtain ⟨f, hf⟩ := hch
    refine ⟨some a, n, c, (List.range n).map f, rfl, hn80, ⟨by simp, hl, by omega, fun hn => ?_⟩, fun t ht => ?_⟩
    · have h0 := (hf 0 (by omega)).2.2 0 _ rfl
      have hs := World.cell?_spot h0
      obtain ⟨b, off, spot⟩ := a
      have hspot : spot = none := by simpa [Addr.add] using hs
      subst hspot
      refine ⟨b, off, rfl, Nat.zero_le _, World.block_lt_of_cell? W _ (by simpa [Addr.add] using h0), fun k y hk jj v hv => ?_⟩
      have hkn : k < n := by have := (List.getElem?_eq_some_iff.1 hk).1; simpa using this
      have hy : f k = y := by simpa [hkn] using hk
      subst hy
      have := (hf k (by omega)).2.2 jj v hv
      rw [add_none] at this
      exact this
    · obtain ⟨i, hir, rfl⟩ := List.mem_map.1 ht
      have := hf i (by have := List.mem_range.1 hir; omega)
      exact ⟨this.1, this.2.1⟩
end
end Go.Proofs.YtjiaepphnddpoaaGreat
