/-
  Own texts for one claim, joined: L19.
-/
import Derived.Deep.DeepCutAuto
import Derived.Deep.AppendLies
import Derived.WalkMore
import Derived.Maps.Own
import Derived.Maps.Views
import Derived.WideKeyPair
import Derived.Carry
import Derived.Deep.RegionHeld3
import Derived.Deep.RegionWith
import Derived.BigRegionIn
import Derived.Deep.QuietTactic
import Derived.BigQuiet
import Derived.Deep.RegionHeld3
import Derived.StillTailTactics
import Derived.Shelf.Abstract
import Derived.Test.YtjiaepphnddpoaaGreatChecked
import Derived.Shelf.Abstract
import Derived.Deep.QuietTactic
import Derived.BigQuiet
import Derived.Deep.RegionHeld3
import Derived.StillTailTactics
import Derived.Deep.AppendLies
import Derived.WalkMore
import Derived.WalkKit
import Derived.WalkSpells
import Derived.WalkLawsBesides
import Derived.Lib.Hide
import Derived.OrdersHeld
import Derived.StillTail
import Derived.StillTailTactics
import Derived.RangeFuncNested
import Derived.RangeFuncBound
import Derived.RangeFuncCalls
import Derived.RangeFuncLeaves
import Derived.Shelf.Abstract
import Derived.Shelf.RegionOpen
import Derived.OwnWalkIn
import Derived.TacticsInMore
import Derived.LoopNIn
import Derived.LoopIn
import Derived.OrdersIn
import Derived.Deep.Quiet
import Derived.Deep.QuietTactic
import Derived.BigQuiet
import Derived.Deep.QuietTactic
import Derived.LoopN
import Derived.Deep.RegionWith
import Derived.BigQuiet
import Derived.Deep.AppendLies
import Derived.ChangeKeysEq
import Derived.Deep.AppendLies
import Derived.Laws.AppendOwnNone
import Derived.Deep.AppendLies
import Derived.Deep.AppendLies
import Derived.Test.YtjiaepphnddpoaaGreatV01
import Derived.Test.YtjiaepphnddpoaaGreatV02
import Derived.Test.YtjiaepphnddpoaaGreatV03
import Derived.Test.YtjiaepphnddpoaaGreatV04
import Derived.Test.YtjiaepphnddpoaaGreatV05
import Derived.Test.YtjiaepphnddpoaaGreatV06
import Derived.Test.YtjiaepphnddpoaaGreatV07
import Derived.Test.YtjiaepphnddpoaaGreatV08
import Derived.Test.YtjiaepphnddpoaaGreatV09
import Derived.Test.YtjiaepphnddpoaaGreatV10
import Derived.Test.YtjiaepphnddpoaaGreatV11
import Derived.Test.YtjiaepphnddpoaaGreatV12
import Derived.Test.YtjiaepphnddpoaaGreatV13
import Derived.Test.YtjiaepphnddpoaaGreatV14
import Derived.Test.YtjiaepphnddpoaaGreatV15
namespace Go.Proofs.YtjiaepphnddpoaaGreat
open Go.RowKit Go.Shelf
set_option linter.unusedSimpArgs false
set_option linter.unusedVariables false
theorem Tryz.infoIl : (Tryz.prog.info? 31).map (fun i => (i.zero, i.size, i.bytes)) = some (some (.slice none 0 0), 1, 24) := by kernel_rfl
structure TrAt (w0 wr : World) (g n pc : Nat) (trs : List IlD) : Prop where
  own : wr.ownsRow w0.heap.size 31 1 (.slice (some ⟨g, 0, none⟩) n pc) n (trs.flatMap IlD.cells)
  len : trs.length = n
  at_ : ∀ x ∈ trs, IlOk wr x ∧ OffA g x.O x.n
theorem TrAt.below {w0 wr w' : World} {g n pc : Nat} {trs : List IlD} (h : TrAt w0 wr g n pc trs) (hb : Below wr.heap.size wr w') : TrAt w0 w' g n pc trs :=
  ⟨ownsRow_below h.own hb, h.len, fun x hx => ⟨SlAt.below (h.at_ x hx).1 hb, (h.at_ x hx).2⟩⟩
theorem TrAt.cell {w0 wr : World} {g n pc : Nat} {trs : List IlD} {k : Nat} {x : IlD} (h : TrAt w0 wr g n pc trs) (hn : n ≤ 17592186044416) (hx : trs[k]? = some x) : wr.cell? ⟨g, k, none⟩ = some (.slice x.O x.n x.c) ∧ g < wr.heap.size := by
  have hsl := SlAt.own (enc := IlD.cells) h.own hn trs rfl (fun _ => rfl) h.len
  obtain ⟨b, off, hA, -, hb, hc⟩ := hsl.ild hx
  simp only [Option.some.injEq, Addr.mk.injEq] at hA
  obtain ⟨rfl, rfl, -⟩ := hA
  rw [Nat.zero_add] at hc
  exact ⟨hc, hb⟩
theorem TrAt.set {w0 wr : World} {g n pc : Nat} {trs : List IlD} {k : Nat} {x y : IlD} (h : TrAt w0 wr g n pc trs) (hx : trs[k]? = some x) (hy : IlOk wr y) (ho : OffA g y.O y.n) : TrAt w0 (wr.setCell ⟨g, k, none⟩ (.slice y.O y.n y.c)) g n pc (trs.set k y) := by
  have hown3 := (h.own.stored k (.slice y.O y.n y.c)).1
  have hfs9 := flat_set (enc := IlD.cells) (s := 1) (fun _ => rfl) (x := x) (y := y) (j := 0) (u := .slice y.O y.n y.c) (by omega) rfl trs k hx
  simp only [Nat.mul_one, Nat.add_zero] at hfs9
  rw [hfs9] at hown3
  refine ⟨hown3, by rw [List.length_set]; exact h.len, fun z hz => ?_⟩
  rcases List.mem_or_eq_of_mem_set hz with hz | rfl
  · exact ⟨SlAt.offSet (h.at_ z hz).1 (h.at_ z hz).2 _, (h.at_ z hz).2⟩
  · exact ⟨SlAt.offSet hy ho _, ho⟩
set_option maxRecDepth 100000 in
set_option maxHeartbeats 4000000 in
theorem TowClear_any (A D C : Option Addr) (n c nd cd nc cc : Nat) (ts : List TlD) (l : List Wat) (v : Int) (bits : List Int) (w : World) (hnb : n * 80 ≤ 140737488355328) (hA : TlL w A n c ts) (hd : SlAt w 0 4 Wat.cells D nd cd l) (hq : SlAt w 0 1 ivs C nc cc bits) :
    Calls Tryz.prog 8 #[.slice A n c, .slice D nd cd, .int .i64 v, .slice C nc cc] w fun e w' => e = .returned (.bool true) ∧ Below w.heap.size w w' := by
  have b : Below w.heap.size w w := Below.refl _ _
  have hnl := Lib.hid hA.1.len
  have hwl := Lib.hid hd.len
  obtain ⟨ds, hds⟩ : ∃ x, ts.map (·.t) = x := ⟨_, rfl⟩
  obtain ⟨es, hes⟩ : ∃ x, ts.map (·.b) = x := ⟨_, rfl⟩
  have hdl : Hid (ds.length = n) := by show _ = _; rw [← hds, List.length_map]; exact hnl.out
  have hel : Hid (es.length = n) := by show _ = _; rw [← hes, List.length_map]; exact hnl.out
  have h0 := fun W h => split_any A n c ts W h hnb
  rw [hds, hes] at h0
  have h1 := fun P pc Q qc W h1 h2 h3 => Tangle_any P Q D n pc n qc nd cd v ds es l W h1 h2 h3
  have h2 := fun P pc Q qc W h1 h2 h3 => Tangle_any P Q D n pc n qc nd cd (min 32768 (v + 1)) ds es l W h1 h2 h3
  clear hds hes
  by_cases her : (tangR ds es l v).2 = 0
  · obtain ⟨hsp, hcw, hv, htn⟩ := tangR_ok her
    rw [tangR_more her] at h2
    rw [htn] at h1
    have hst := okT_start hsp
    have hww : okWats l = true := by unfold chkWats at hcw; split at hcw; assumption; cases hcw
    have hat := Lib.hid (okT_at hst hww)
    have hxo := Lib.hid (fun (j : Nat) (x : Wat) (hx : l[j]? = some x) => okWats_acr hcw hx)
    have hnd : nd ≤ 48 := by
      have := hww
      unfold okWats at this
      simp only [Bool.and_eq_true, decide_eq_true_eq] at this
      have := hwl.out; omega
    obtain ⟨⟨hl1, hl4⟩, hlm, -⟩ := sprOk_iff hsp
    have hn4 : n ≤ 4 := by have := hdl.out; omega
    have hn1 : 0 < n := by have := hdl.out; omega
    obtain ⟨bss, hbss⟩ : ∃ q, es.map (·.bs) = q := ⟨_, rfl⟩
    rw [hbss] at h1 h2 hat
    have hbd := tanS_bd ds bss l v
    have hmo := fun h => tanS_mono (ds := ds) (bss := bss) (ws := l) (v := v) (u := min 32768 (v + 1)) hv.1 (by omega) h
    have hbf := Lib.hid (fun (t : Nat) (ht : t ≤ l.length) h => tanS_before (ds := ds) (bss := bss) (ws := l) (v := v) ht h)
    rw [hwl.out] at hbd hbf
    generalize tanS ds bss l v = n0 at *
    generalize tanS ds bss l (min 32768 (v + 1)) = m0 at *
    obtain ⟨v1, v2⟩ := hv
    have m1 := sq_bd (a := v) (A := 32768) (by omega) (by omega)
    have u1 := IntWalk.i64_in (v + 1) (by omega)
    have u2 := IntWalk.i64_in (v * v) (by omega)
    have hmin := min2_int
    clear her hsp hcw htn hst hww hl1 hl4 hlm m1 hnb
    dsimp only at h1 h2
    obtain ⟨d1, d2⟩ := hbd
    have hb1 : 0 ≤ n0 → ∀ W, Calls Tryz.prog 34 #[.int .i64 m0, .int .i64 0, .int .i64 n0] W fun e w' => e = .returned (.bool true) ∧ W = w' := by
      intro h0 W
      have := Between_any m0 0 n0 W
      rwa [decide_eq_true (hmo h0)] at this
    have hb2 := fun W => Between_any n0 (-1) (nd : Int) W
    simp only [decide_eq_true (show -1 ≤ n0 ∧ n0 ≤ (nd : Int) by omega)] at hb2
    clear hmo
    go_enter Tryz.func8, Tryz.ntmps8
    go_wp2_with fail
    refine (h0 _ hA).mono ?_
    rintro e W ⟨P, pc, Q, qc, rfl, hP, hQ, hbel⟩
    clear h0 hA
    replace b := b.trans (hbel.mono b.size)
    replace hd := hd.below hbel
    replace hq := hq.below hbel
    clear hbel
    go_wp2_with fail
    refine (h1 _ _ _ _ _ hP hQ hd).mono ?_
    rintro e W ⟨rfl, hbel⟩
    clear h1
    replace b := b.trans (hbel.mono b.size)
    replace hP := hP.below hbel
    replace hQ := hQ.below hbel
    replace hd := hd.below hbel
    replace hq := hq.below hbel
    clear hbel
    go_wp2_with fail
    refine (h2 _ _ _ _ _ hP hQ hd).mono ?_
    rintro e W ⟨rfl, hbel⟩
    clear h2
    replace b := b.trans (hbel.mono b.size)
    replace hP := hP.below hbel
    replace hQ := hQ.below hbel
    replace hd := hd.below hbel
    replace hq := hq.below hbel
    clear hbel
    go_upto_region 6 with fail
    go_cut [8, 9, 10, 11, 12, 13, 78] (fun x8 x9 x10 x11 x12 x13 u wx => x8 = .bool false ∧ x9 = .slice P n pc ∧ x10 = .slice Q n qc ∧ x11 = .int .i64 n0 ∧ x12 = .int .i64 0 ∧ x13 = .int .i64 m0 ∧ u = .bool false ∧ wx = W)
    case first =>
      by_cases hn0 : 0 ≤ n0
      · replace hb1 := hb1 hn0
        go_wp2_with fail
        refine (hb1 _).mono ?_
        rintro e w' ⟨rfl, rfl⟩
        go_wp2_with fail
        refine (hb2 _).mono ?_
        rintro e w' ⟨rfl, rfl⟩
        go_wp2_with fail
        go_meet
        exact ⟨rfl, rfl, rfl, rfl, rfl, rfl, rfl, rfl⟩
      · clear hb1
        go_wp2_with fail
        refine (hb2 _).mono ?_
        rintro e w' ⟨rfl, rfl⟩
        go_wp2_with fail
        go_meet
        exact ⟨rfl, rfl, rfl, rfl, rfl, rfl, rfl, rfl⟩
    case rest =>
    clear hb1 hb2
    obtain ⟨rfl, rfl, rfl, rfl, rfl, rfl, rfl, hwc⟩ := hcut
    rw [hwc]
    clear hwc wc
    go_wp2_with fail
    obtain ⟨is, ish, is0, is1, is2⟩ := info_parts Tryz.infoIl
    go_loopw [14, 15] (fun vt i wr => ∃ (k : Nat) (trs : List IlD), i = .int .i64 k ∧ k ≤ n ∧ wr.ownsRow W.heap.size 31 1 vt k (trs.flatMap IlD.cells) ∧ trs.length = k ∧ (∀ (i : Nat) (x : IlD) (e : BdD), trs[i]? = some x → es[i]? = some e → Lies x.xs e.bs) ∧ (∀ x ∈ trs, IlOk wr x ∧ ∀ g, vt.ownBlock = some g → OffA g x.O x.n) ∧ Below W.heap.size W wr) (fun vt i wr => n - (intOf i).toNat)
    case atStart => exact ⟨0, [], rfl, Nat.zero_le _, ⟨rfl, .inl ⟨rfl, rfl⟩⟩, rfl, (fun i x e h => by cases h), (fun x hx => absurd hx List.not_mem_nil), Below.refl _ _⟩
    case round =>
      obtain ⟨k, trs, rfl, hk, hown, htl, hLi, hoff, hb⟩ := hrel
      replace htl := Lib.hid htl
      replace hLi := Lib.hid hLi
      replace hoff := Lib.hid hoff
      by_cases hlt : k < n
      · have hk0 : (0 : Int) ≤ (k : Int) := by omega
        have hk1 : (k : Int) < (n : Int) := by omega
        obtain ⟨e0, he0⟩ := some_of_lt hel.out hlt
        obtain ⟨d0, hd0⟩ := some_of_lt hdl.out hlt
        have hbk : bss[k]? = some e0.bs := by rw [← hbss, List.getElem?_map, he0]; rfl
        have hde := (hat.out 0).2 k d0 e0.bs hd0 hbk
        have hLn := Lib.hid (insL_lies bits (3 * (k : Int)) (okOffs_all hde.2))
        have hsb : BdOk wr e0 := SlAt.below (hQ.2 e0 (List.mem_of_getElem? he0)) hb
        unfold BdOk at hsb
        obtain ⟨bQ, oQ, hB, -, hbQ, y0⟩ := hQ.1.bdd he0
        subst hB
        replace y0 := (hb.cell (p := ⟨bQ, oQ + k, none⟩) hbQ).trans y0
        have hin := fun W h1 h2 => inside_any e0.bs bits (3 * (k : Int)) e0.O C e0.n e0.c nc cc 0 0 W (by omega) (by omega) h1 h2
        have u3 := IntWalk.i64_in (3 * (k : Int)) (by omega)
        have hqr := hq.below hb
        have hbig1 : Hid (k + 1 ≤ maxLen) := by show k + 1 ≤ maxLen; unfold maxLen; omega
        have hbig2 : Hid ((k + 1) * 24 ≤ 140737488355328) := by show (k + 1) * 24 ≤ 140737488355328; omega
        replace he0 := Lib.hid he0
        clear hde hbk hd0 d0
        go_wp2_with fail
        refine (hin _ hsb hqr).mono ?_
        rintro e W3 ⟨O3, c3, rfl, hr3, hbel⟩
        clear hin hsb hqr y0 u3
        have hul : ∀ g, u14.ownBlock = some g → g < wr.heap.size := fun g e => (hown.lt g e).2
        have hwh := ownsRow_below hown hbel
        have hoff3 : Hid (∀ x ∈ trs, IlOk W3 x ∧ ∀ g, u14.ownBlock = some g → OffA g x.O x.n) := by
          show ∀ _, _
          exact fun x hx => ⟨SlAt.below (hoff.out x hx).1 hbel, (hoff.out x hx).2⟩
        have hsz3 := hbel.size
        have hb3 := hb.trans (hbel.mono hb.size)
        clear hbel hoff
        have hownf := hwh.alloc (.cells #[Value.slice O3 e0.n c3] 31)
        have hbf := hb3.alloc hb3.size (.cells #[Value.slice O3 e0.n c3] 31)
        have hnews := World.news_of_block (cs := #[Value.slice O3 e0.n c3]) (World.alloc_heap_new W3 (.cells #[Value.slice O3 e0.n c3] 31))
        go_wp2_with (at_builtin; refine wpList_append_lies _ rfl (.tmp 85) (.tmp 94) 83 rfl W.heap.size 31 is (.slice none 0 0) 1 24 Tryz.underlying83 ish is0 is1 is2 rfl (by decide) u14 k (trs.flatMap IlD.cells) rfl hownf ⟨W3.heap.size, 0, none⟩ 1 1 [Value.slice O3 e0.n c3] rfl rfl hnews (by simp [Value.oneCell']) (by decide) hbig1.out hbig2.out hbf.size (W3.heap.size + 1) (by simp) ?_; intro g7 cap w7 hown7 hgrow hlies hlt7)
        have hbg : Below W.heap.size _ w7 := ⟨hgrow.os, hgrow.tape, hgrow.output, hgrow.size, fun b hb2 => hgrow.block b (Nat.lt_of_lt_of_le hb2 hbf.size) (fun e => by have := (hownf.lt _ e.symm).1; omega)⟩
        have hbh := hbf.trans hbg
        go_wp2_with fail
        go_roundw
        case rel =>
          have hoff7 : ∀ (x : IlD) (B : Nat), SlAt W3 B 1 ivs x.O x.n x.c x.xs → (∀ g, u14.ownBlock = some g → OffA g x.O x.n) → IlOk w7 x ∧ OffA g7 x.O x.n := by
            intro x B hx hoff
            refine ⟨((hx.alloc _).grownOff hgrow hoff).mono (Nat.zero_le _), ?_⟩
            rcases hlies with h | h
            · exact hoff g7 h
            · subst h; exact OffA.below hx (by omega)
          refine ⟨k + 1, trs ++ [⟨insL e0.bs bits (3 * (k : Int)), O3, e0.n, c3⟩], by go_num, by omega, ?_, by rw [List.length_append, htl.out]; rfl, ?_, ?_, hbh⟩
          · rw [List.flatMap_append]; exact hown7
          · intro i x e hx he
            by_cases hi : i < k
            · rw [List.getElem?_append_left (by rw [htl.out]; exact hi)] at hx
              exact hLi.out i x e hx he
            · rw [List.getElem?_append_right (by rw [htl.out]; omega), htl.out] at hx
              have hi0 : i - k = 0 := by have := (List.getElem?_eq_some_iff.1 hx).1; simp at this; omega
              rw [hi0] at hx
              simp only [List.getElem?_cons_zero, Option.some.injEq] at hx
              subst hx
              obtain rfl : k = i := by omega
              rw [he0.out] at he
              simp only [Option.some.injEq] at he
              subst he
              exact hLn.out
          · intro x hx
            rcases List.mem_append.1 hx with hx | hx
            · obtain ⟨h1, h2⟩ := hoff3.out x hx
              obtain ⟨h3, h4⟩ := hoff7 x 0 h1 h2
              exact ⟨h3, fun g2 e2 => by simp only [Value.ownBlock, Option.some.injEq] at e2; subst e2; exact h4⟩
            · obtain rfl := List.mem_singleton.1 hx
              obtain ⟨h3, h4⟩ := hoff7 ⟨insL e0.bs bits (3 * (k : Int)), O3, e0.n, c3⟩ _ hr3 (fun g2 e2 => OffA.above hr3 (by have := hul g2 e2; omega))
              exact ⟨h3, fun g2 e2 => by simp only [Value.ownBlock, Option.some.injEq] at e2; subst e2; exact h4⟩
        case measure => simp [intOf]; omega
      · obtain rfl : n = k := by omega
        rcases hown.2 with ⟨-, h⟩ | ⟨g, cap, cur, rfl, hg, -⟩
        · omega
        have hT0 : TrAt W wr g n cap trs := ⟨hown, htl.out, fun x hx => ⟨(hoff.out x hx).1, (hoff.out x hx).2 g rfl⟩⟩
        have hbl : bss.length = n := by rw [← hbss, List.length_map]; exact hel.out
        have hLT0 : LiT bss trs := ⟨by rw [htl.out, hbl], fun i o c ho hc => by
          rw [← hbss, List.getElem?_map] at hc
          cases he : es[i]? with
          | none => rw [he] at hc; cases hc
          | some e =>
            rw [he] at hc
            simp only [Option.map_some, Option.some.injEq] at hc
            subst hc
            exact hLi.out i o e ho he⟩
        clear hown htl hLi hoff hQ is0 is1 is2 ish
        replace hT0 := Lib.hid hT0
        replace hLT0 := Lib.hid hLT0
        go_wp2_with fail
        go_loopw [16] (fun j wr => ∃ (q : Nat) (trs : List IlD), j = .int .i64 q ∧ q ≤ nd ∧ TrAt W wr g n cap trs ∧ LiT (stAt ds bss l q) trs ∧ Below W.heap.size W wr) (fun j wr => nd + 1 - (intOf j).toNat)
        case atStart => exact ⟨0, trs, rfl, Nat.zero_le _, hT0.out, hLT0.out, hb⟩
        case round =>
          clear hT0 hLT0 hb
          obtain ⟨q, trs, rfl, hqd, hT, hLT, hb⟩ := hrel
          replace hT := Lib.hid hT
          replace hLT := Lib.hid hLT
          have hok := Lib.hid (hat.out q)
          obtain ⟨cur, hcur⟩ : ∃ x, stAt ds bss l q = x := ⟨_, rfl⟩
          rw [hcur] at hok hLT
          have hcur := Lib.hid hcur
          have hq0 : (0 : Int) ≤ (q : Int) := by omega
          have hqn : (q : Int) ≤ (nd : Int) := by omega
          by_cases hgo : n0 < 0 ∨ (q : Int) < n0
          · have hnh := Lib.hid (hbf.out q hqd hgo)
            rw [hcur.out] at hnh
            go_upto_region 14 with fail
            go_cut [108] (fun u wx => u = .bool true ∧ wx = wr)
            case first =>
              by_cases h : n0 < 0
              · go_wp2_with fail
                go_meet
                exact ⟨rfl, rfl⟩
              · have h2 : (q : Int) < n0 := by omega
                go_wp2_with fail
                go_meet
                exact ⟨rfl, rfl⟩
            case rest =>
            clear hgo
            obtain ⟨rfl, hwc⟩ := hcut
            rw [hwc]
            clear hwc wc
            obtain ⟨wI, hwI⟩ : ∃ x, x = wr := ⟨_, rfl⟩
            rw [← hwI] at hT hb
            rw [← hwI]
            clear hwI
            have hPI := Lib.hid (hP.below hb)
            go_wp2_with fail
            go_loopw [17] (fun j wr => ∃ a : Nat, j = .int .i64 (a : Int) ∧ a ≤ n ∧ Below wI.heap.size wI wr) (fun j wr => n - (intOf j).toNat)
            case atStart => exact ⟨0, rfl, Nat.zero_le _, Below.refl _ _⟩
            case round =>
              obtain ⟨a, rfl, ha, hbI⟩ := hrel
              have ha0 : (0 : Int) ≤ (a : Int) := by omega
              by_cases hlta : a < n
              · have ha1 : (a : Int) < (n : Int) := by omega
                obtain ⟨wK, hwK⟩ : ∃ x, x = wr := ⟨_, rfl⟩
                rw [← hwK] at hbI
                rw [← hwK]
                clear hwK
                go_wp2_with fail
                go_loopw [18] (fun j wr => ∃ k : Nat, j = .int .i64 (k : Int) ∧ k ≤ a ∧ Below wI.heap.size wI wr) (fun j wr => a - (intOf j).toNat)
                case atStart => exact ⟨0, rfl, Nat.zero_le _, hbI⟩
                case round =>
                  clear hbI
                  obtain ⟨k, rfl, hk, hbK⟩ := hrel
                  by_cases hltk : k < a
                  · as_aux_lemma =>
                    have hk0 : (0 : Int) ≤ (k : Int) := by omega
                    have hk1 : (k : Int) < (n : Int) := by omega
                    have hk2 : (k : Int) < (a : Int) := by omega
                    obtain ⟨d1, hd1⟩ := some_of_lt hdl.out hlta
                    obtain ⟨d2, hd2⟩ := some_of_lt hdl.out (show k < n by omega)
                    obtain ⟨c1, hc1, hok1⟩ := okT_get hok.out hd1
                    obtain ⟨c2, hc2, hok2⟩ := okT_get hok.out hd2
                    obtain ⟨x1, hx1⟩ := some_of_lt hT.out.len hlta
                    obtain ⟨x2, hx2⟩ := some_of_lt hT.out.len (show k < n by omega)
                    have hL1 := hLT.out.2 a x1 c1 hx1 hc1
                    have hL2 := hLT.out.2 k x2 c2 hx2 hc2
                    have hTk := hT.out.below hbK
                    obtain ⟨y0, hgW⟩ := hTk.cell (by omega) hx1
                    obtain ⟨v0, -⟩ := hTk.cell (by omega) hx2
                    have hsx1 := (hTk.at_ x1 (List.mem_of_getElem? hx1)).1
                    have hsx2 := (hTk.at_ x2 (List.mem_of_getElem? hx2)).1
                    unfold IlOk at hsx1 hsx2
                    have hPk := hPI.out.below hbK
                    have hst1 := hPk.2 d1 (List.mem_of_getElem? hd1)
                    have hst2 := hPk.2 d2 (List.mem_of_getElem? hd2)
                    unfold StOk at hst1 hst2
                    obtain ⟨bP, oP, hA1, -, hbP, z0, z1, z2, z3, z4⟩ := hPk.1.std hd1
                    obtain ⟨bP', oP', hA2, -, -, p0, p1, p2, p3, p4⟩ := hPk.1.std hd2
                    rw [hA1] at hA2
                    simp only [Option.some.injEq, Addr.mk.injEq, and_true] at hA2
                    obtain ⟨rfl, rfl⟩ := hA2
                    subst hA1
                    have hn1 : x1.n = d1.n := by have := hL1.1; have := okOffs_len hok1.2; have := hst1.len; have := hsx1.len; omega
                    have hn2 : x2.n = d2.n := by have := hL2.1; have := okOffs_len hok2.2; have := hst2.len; have := hsx2.len; omega
                    rw [hn1] at y0 hsx1
                    rw [hn2] at v0 hsx2
                    have hla1 := fun W h1 h2 => laid_any d1.s d1.A x1.O d1.n d1.c x1.c 0 0 x1.xs false W hok1.1 (hL1.range (okOffs_all hok1.2)) h1 h2
                    have hla2 := fun W h1 h2 => laid_any d2.s d2.A x2.O d2.n d2.c x2.c 0 0 x2.xs false W hok2.1 (hL2.range (okOffs_all hok2.2)) h1 h2
                    unfold RetLaid at hla1 hla2
                    have hcs := Lib.hid (fun (i j : Nat) (p q : Pnt) h1 h2 h3 h4 => clear_said (v := v) (i := i) (j := j) (p := p) (q := q) hnh.out hltk hd1 hd2 hc1 hc2 hok.out hL1 hL2 h1 h2 h3 h4)
                    have hpo1 := Lib.hid (fun (i : Nat) (p : Pnt) (h1 : laidB d1.s x1.xs = true) (h2 : (laidL d1.s x1.xs false)[i]? = some p) => (laid_at hok1.1 hok1.2 hL1 h1 h2).1)
                    have hpo2 := Lib.hid (fun (i : Nat) (p : Pnt) (h1 : laidB d2.s x2.xs = true) (h2 : (laidL d2.s x2.xs false)[i]? = some p) => (laid_at hok2.1 hok2.2 hL2 h1 h2).1)
                    clear hd1 hd2 hc1 hc2 hok1 hok2 hx1 hx2 hL1 hL2 hTk hPk hn1 hn2
                    have hS8 : Hid (∀ W', Below wr.heap.size wr W' → (fun w' : World => w'.cell? ⟨bP, oP + a * 5, none⟩ = some (.int .i64 d1.s.head) ∧ w'.cell? ⟨bP, oP + a * 5 + 1, none⟩ = some (.slice d1.A d1.n d1.c) ∧ w'.cell? ⟨bP, oP + a * 5 + 2, none⟩ = some (.int .i64 d1.s.lane.lo) ∧ w'.cell? ⟨bP, oP + a * 5 + 3, none⟩ = some (.int .i64 d1.s.lane.hi) ∧ w'.cell? ⟨bP, oP + a * 5 + 4, none⟩ = some (.int .i64 d1.s.bend) ∧ w'.cell? ⟨g, a, none⟩ = some (.slice x1.O d1.n x1.c)) W') := by
                      show ∀ _, _
                      intro W' hbb
                      exact ⟨(hbb.cell (p := ⟨bP, oP + a * 5, none⟩) hbP).trans z0, (hbb.cell (p := ⟨bP, oP + a * 5 + 1, none⟩) hbP).trans z1, (hbb.cell (p := ⟨bP, oP + a * 5 + 2, none⟩) hbP).trans z2, (hbb.cell (p := ⟨bP, oP + a * 5 + 3, none⟩) hbP).trans z3, (hbb.cell (p := ⟨bP, oP + a * 5 + 4, none⟩) hbP).trans z4, (hbb.cell (p := ⟨g, a, none⟩) hgW).trans y0⟩
                    go_wp2_with fail
                    refine wp_held_np (fun w' : World => w'.cell? ⟨bP, oP + a * 5, none⟩ = some (.int .i64 d1.s.head) ∧ w'.cell? ⟨bP, oP + a * 5 + 1, none⟩ = some (.slice d1.A d1.n d1.c) ∧ w'.cell? ⟨bP, oP + a * 5 + 2, none⟩ = some (.int .i64 d1.s.lane.lo) ∧ w'.cell? ⟨bP, oP + a * 5 + 3, none⟩ = some (.int .i64 d1.s.lane.hi) ∧ w'.cell? ⟨bP, oP + a * 5 + 4, none⟩ = some (.int .i64 d1.s.bend) ∧ w'.cell? ⟨g, a, none⟩ = some (.slice x1.O d1.n x1.c)) (by kernel_rfl) ?_
                    have hbw : Below wr.heap.size wr wr.drew := (Below.refl _ _).drew
                    have hS := hS8.out _ hbw
                    generalize wr.drew = wd at *
                    refine held_take (i := 0) (v := ?_) 123 rfl rfl (by kernel_rfl) (by kernel_rfl) (by kernel_rfl) (fun _ _ _ h => h) (Or.inl ⟨by rfl, ?_⟩) hS ?_
                    rotate_left 1
                    · intro w' hSw
                      try dsimp only at hSw
                      obtain ⟨z0, z1, z2, z3, z4, y0⟩ := hSw
                      go_simp
                      all_goals with_reducible rfl
                    try simp only [Act.put, List.setIfInBounds_toArray, List.set_cons_zero, List.set_cons_succ]
                    refine held_take (i := 1) (v := ?_) 124 rfl rfl (by kernel_rfl) (by kernel_rfl) (by kernel_rfl) (fun _ _ _ h => h) (Or.inl ⟨by rfl, ?_⟩) hS ?_
                    rotate_left 1
                    · intro w' hSw
                      try dsimp only at hSw
                      obtain ⟨z0, z1, z2, z3, z4, y0⟩ := hSw
                      go_simp
                      all_goals with_reducible rfl
                    try simp only [Act.put, List.setIfInBounds_toArray, List.set_cons_zero, List.set_cons_succ]
                    refine held_take (i := 2) (v := ?_) 125 rfl rfl (by kernel_rfl) (by kernel_rfl) (by kernel_rfl) (fun _ _ _ h => h) (Or.inl ⟨by rfl, ?_⟩) hS ?_
                    rotate_left 1
                    · intro w' hSw
                      try dsimp only at hSw
                      obtain ⟨z0, z1, z2, z3, z4, y0⟩ := hSw
                      go_simp
                      all_goals with_reducible rfl
                    try simp only [Act.put, List.setIfInBounds_toArray, List.set_cons_zero, List.set_cons_succ]
                    refine held_take (i := 3) (v := ?_) 126 rfl rfl (by kernel_rfl) (by kernel_rfl) (by kernel_rfl) (fun _ _ _ h => h) (Or.inl ⟨by rfl, ?_⟩) hS ?_
                    rotate_left 1
                    · intro w' hSw
                      try dsimp only at hSw
                      obtain ⟨z0, z1, z2, z3, z4, y0⟩ := hSw
                      go_simp
                      all_goals with_reducible rfl
                    try simp only [Act.put, List.setIfInBounds_toArray, List.set_cons_zero, List.set_cons_succ]
                    refine held_take (i := 4) (v := ?_) 127 rfl rfl (by kernel_rfl) (by kernel_rfl) (by kernel_rfl) (fun _ _ _ h => h) (Or.inl ⟨by rfl, ?_⟩) hS ?_
                    rotate_left 1
                    · intro w' hSw
                      try dsimp only at hSw
                      obtain ⟨z0, z1, z2, z3, z4, y0⟩ := hSw
                      go_simp
                      all_goals with_reducible rfl
                    try simp only [Act.put, List.setIfInBounds_toArray, List.set_cons_zero, List.set_cons_succ]
                    refine held_take (i := 5) (v := ?_) 128 rfl rfl (by kernel_rfl) (by kernel_rfl) (by kernel_rfl) (fun _ _ _ h => h) (Or.inl ⟨by rfl, ?_⟩) hS ?_
                    rotate_left 1
                    · intro w' hSw
                      try dsimp only at hSw
                      obtain ⟨z0, z1, z2, z3, z4, y0⟩ := hSw
                      go_simp
                      all_goals with_reducible rfl
                    try simp only [Act.put, List.setIfInBounds_toArray, List.set_cons_zero, List.set_cons_succ]
                    refine held_take (i := 6) (v := ?_) 129 rfl rfl (by kernel_rfl) (by kernel_rfl) (by kernel_rfl) (fun _ _ _ h => h) (Or.inl ⟨by rfl, ?_⟩) hS ?_
                    rotate_left 1
                    · intro w' hSw
                      try dsimp only at hSw
                      obtain ⟨z0, z1, z2, z3, z4, y0⟩ := hSw
                      go_simp
                      all_goals with_reducible rfl
                    try simp only [Act.put, List.setIfInBounds_toArray, List.set_cons_zero, List.set_cons_succ]
                    refine held_take (i := 7) (v := ?_) 130 rfl rfl (by kernel_rfl) (by kernel_rfl) (by kernel_rfl) (fun _ _ _ h => h) (Or.inl ⟨by rfl, ?_⟩) hS ?_
                    rotate_left 1
                    · intro w' hSw
                      try dsimp only at hSw
                      obtain ⟨z0, z1, z2, z3, z4, y0⟩ := hSw
                      go_simp
                      all_goals with_reducible rfl
                    try simp only [Act.put, List.setIfInBounds_toArray, List.set_cons_zero, List.set_cons_succ]
                    refine held_one (i := 8) (by kernel_rfl) rfl rfl (fun K hK => ?_)
                    go_simp
                    refine (hla1 _ (hst1.below hbw) (hsx1.below hbw)).mono ?_
                    rintro e W3 ⟨R2, m2, rc2, rfl, hr2, hbel⟩
                    clear hS
                    replace hbw := hbw.trans (hbel.mono hbw.size)
                    replace hr2 := hr2.mono (Nat.zero_le _)
                    have hS := hS8.out _ hbw
                    refine hK _ _ hS ?_
                    clear hK K hbel
                    try simp only [Act.put, List.setIfInBounds_toArray, List.set_cons_zero, List.set_cons_succ]
                    refine held_take (i := 9) (v := ?_) 122 rfl rfl (by kernel_rfl) (by kernel_rfl) (by kernel_rfl) (fun _ _ _ h => h) (Or.inl ⟨by rfl, ?_⟩) hS ?_
                    rotate_left 1
                    · intro w' hSw
                      try dsimp only at hSw
                      obtain ⟨z0, z1, z2, z3, z4, y0⟩ := hSw
                      go_simp
                      all_goals with_reducible rfl
                    try simp only [Act.put, List.setIfInBounds_toArray, List.set_cons_zero, List.set_cons_succ]
                    refine held_take (i := 10) (v := ?_) 132 rfl rfl (by kernel_rfl) (by kernel_rfl) (by kernel_rfl) (fun _ _ _ h => h) (Or.inl ⟨by rfl, ?_⟩) hS ?_
                    rotate_left 1
                    · intro w' hSw
                      try dsimp only at hSw
                      obtain ⟨z0, z1, z2, z3, z4, y0⟩ := hSw
                      go_simp
                      all_goals with_reducible rfl
                    try simp only [Act.put, List.setIfInBounds_toArray, List.set_cons_zero, List.set_cons_succ]
                    refine held_take (i := 11) (v := ?_) 133 rfl rfl (by kernel_rfl) (by kernel_rfl) (by kernel_rfl) (fun _ _ _ h => h) (Or.inl ⟨by rfl, ?_⟩) hS ?_
                    rotate_left 1
                    · intro w' hSw
                      try dsimp only at hSw
                      obtain ⟨z0, z1, z2, z3, z4, y0⟩ := hSw
                      go_simp
                      all_goals with_reducible rfl
                    try simp only [Act.put, List.setIfInBounds_toArray, List.set_cons_zero, List.set_cons_succ]
                    refine held_take (i := 12) (v := ?_) 19 rfl rfl (by kernel_rfl) (by kernel_rfl) (by kernel_rfl) (fun _ _ _ h => h) (Or.inl ⟨by rfl, ?_⟩) hS ?_
                    rotate_left 1
                    · intro w' hSw
                      try dsimp only at hSw
                      obtain ⟨z0, z1, z2, z3, z4, y0⟩ := hSw
                      go_simp
                      all_goals with_reducible rfl
                    try simp only [Act.put, List.setIfInBounds_toArray, List.set_cons_zero, List.set_cons_succ]
                    refine held_take (i := 13) (v := ?_) 20 rfl rfl (by kernel_rfl) (by kernel_rfl) (by kernel_rfl) (fun _ _ _ h => h) (Or.inl ⟨by rfl, ?_⟩) hS ?_
                    rotate_left 1
                    · intro w' hSw
                      try dsimp only at hSw
                      obtain ⟨z0, z1, z2, z3, z4, y0⟩ := hSw
                      go_simp
                      all_goals with_reducible rfl
                    try simp only [Act.put, List.setIfInBounds_toArray, List.set_cons_zero, List.set_cons_succ]
                    refine wpAnyH_done (by kernel_rfl) (noPanic_normal ?_) _
                    clear hS hS8
                    try simp only [Act.put, List.setIfInBounds_toArray, List.set_cons_zero, List.set_cons_succ]
                    replace hbK := hbK.trans (hbw.mono hbK.size)
                    replace hst2 := hst2.below hbw
                    replace hsx2 := hsx2.below hbw
                    replace p0 := (hbw.cell (p := ⟨bP, oP + k * 5, none⟩) hbP).trans p0
                    replace p1 := (hbw.cell (p := ⟨bP, oP + k * 5 + 1, none⟩) hbP).trans p1
                    replace p2 := (hbw.cell (p := ⟨bP, oP + k * 5 + 2, none⟩) hbP).trans p2
                    replace p3 := (hbw.cell (p := ⟨bP, oP + k * 5 + 3, none⟩) hbP).trans p3
                    replace p4 := (hbw.cell (p := ⟨bP, oP + k * 5 + 4, none⟩) hbP).trans p4
                    replace v0 := (hbw.cell (p := ⟨g, k, none⟩) hgW).trans v0
                    replace hbP := Nat.lt_of_lt_of_le hbP hbw.size
                    replace hgW := Nat.lt_of_lt_of_le hgW hbw.size
                    clear hbw hst1 hsx1 hla1 z0 z1 z2 z3 z4 y0
                    have hrA := hr2
                    clear hr2
                    generalize W3 = Wa at *
                    obtain ⟨RA, hRA⟩ : ∃ x, x = R2 := ⟨_, rfl⟩
                    obtain ⟨mA, hmA⟩ : ∃ x, x = m2 := ⟨_, rfl⟩
                    obtain ⟨cA, hcA⟩ : ∃ x, x = rc2 := ⟨_, rfl⟩
                    rw [← hRA, ← hmA, ← hcA] at hrA
                    rw [← hRA, ← hmA, ← hcA]
                    clear hRA hmA hcA
                    have hS8 : Hid (∀ W', Below Wa.heap.size Wa W' → (fun w' : World => w'.cell? ⟨bP, oP + k * 5, none⟩ = some (.int .i64 d2.s.head) ∧ w'.cell? ⟨bP, oP + k * 5 + 1, none⟩ = some (.slice d2.A d2.n d2.c) ∧ w'.cell? ⟨bP, oP + k * 5 + 2, none⟩ = some (.int .i64 d2.s.lane.lo) ∧ w'.cell? ⟨bP, oP + k * 5 + 3, none⟩ = some (.int .i64 d2.s.lane.hi) ∧ w'.cell? ⟨bP, oP + k * 5 + 4, none⟩ = some (.int .i64 d2.s.bend) ∧ w'.cell? ⟨g, k, none⟩ = some (.slice x2.O d2.n x2.c)) W') := by
                      show ∀ _, _
                      intro W' hbb
                      exact ⟨(hbb.cell (p := ⟨bP, oP + k * 5, none⟩) hbP).trans p0, (hbb.cell (p := ⟨bP, oP + k * 5 + 1, none⟩) hbP).trans p1, (hbb.cell (p := ⟨bP, oP + k * 5 + 2, none⟩) hbP).trans p2, (hbb.cell (p := ⟨bP, oP + k * 5 + 3, none⟩) hbP).trans p3, (hbb.cell (p := ⟨bP, oP + k * 5 + 4, none⟩) hbP).trans p4, (hbb.cell (p := ⟨g, k, none⟩) hgW).trans v0⟩
                    go_wp2_with fail
                    refine wp_held_np (fun w' : World => w'.cell? ⟨bP, oP + k * 5, none⟩ = some (.int .i64 d2.s.head) ∧ w'.cell? ⟨bP, oP + k * 5 + 1, none⟩ = some (.slice d2.A d2.n d2.c) ∧ w'.cell? ⟨bP, oP + k * 5 + 2, none⟩ = some (.int .i64 d2.s.lane.lo) ∧ w'.cell? ⟨bP, oP + k * 5 + 3, none⟩ = some (.int .i64 d2.s.lane.hi) ∧ w'.cell? ⟨bP, oP + k * 5 + 4, none⟩ = some (.int .i64 d2.s.bend) ∧ w'.cell? ⟨g, k, none⟩ = some (.slice x2.O d2.n x2.c)) (by kernel_rfl) ?_
                    have hbw : Below Wa.heap.size Wa Wa.drew := (Below.refl _ _).drew
                    have hS := hS8.out _ hbw
                    generalize Wa.drew = wd at *
                    refine held_take (i := 0) (v := ?_) 135 rfl rfl (by kernel_rfl) (by kernel_rfl) (by kernel_rfl) (fun _ _ _ h => h) (Or.inl ⟨by rfl, ?_⟩) hS ?_
                    rotate_left 1
                    · intro w' hSw
                      try dsimp only at hSw
                      obtain ⟨z0, z1, z2, z3, z4, y0⟩ := hSw
                      go_simp
                      all_goals with_reducible rfl
                    try simp only [Act.put, List.setIfInBounds_toArray, List.set_cons_zero, List.set_cons_succ]
                    refine held_take (i := 1) (v := ?_) 136 rfl rfl (by kernel_rfl) (by kernel_rfl) (by kernel_rfl) (fun _ _ _ h => h) (Or.inl ⟨by rfl, ?_⟩) hS ?_
                    rotate_left 1
                    · intro w' hSw
                      try dsimp only at hSw
                      obtain ⟨z0, z1, z2, z3, z4, y0⟩ := hSw
                      go_simp
                      all_goals with_reducible rfl
                    try simp only [Act.put, List.setIfInBounds_toArray, List.set_cons_zero, List.set_cons_succ]
                    refine held_take (i := 2) (v := ?_) 137 rfl rfl (by kernel_rfl) (by kernel_rfl) (by kernel_rfl) (fun _ _ _ h => h) (Or.inl ⟨by rfl, ?_⟩) hS ?_
                    rotate_left 1
                    · intro w' hSw
                      try dsimp only at hSw
                      obtain ⟨z0, z1, z2, z3, z4, y0⟩ := hSw
                      go_simp
                      all_goals with_reducible rfl
                    try simp only [Act.put, List.setIfInBounds_toArray, List.set_cons_zero, List.set_cons_succ]
                    refine held_take (i := 3) (v := ?_) 138 rfl rfl (by kernel_rfl) (by kernel_rfl) (by kernel_rfl) (fun _ _ _ h => h) (Or.inl ⟨by rfl, ?_⟩) hS ?_
                    rotate_left 1
                    · intro w' hSw
                      try dsimp only at hSw
                      obtain ⟨z0, z1, z2, z3, z4, y0⟩ := hSw
                      go_simp
                      all_goals with_reducible rfl
                    try simp only [Act.put, List.setIfInBounds_toArray, List.set_cons_zero, List.set_cons_succ]
                    refine held_take (i := 4) (v := ?_) 139 rfl rfl (by kernel_rfl) (by kernel_rfl) (by kernel_rfl) (fun _ _ _ h => h) (Or.inl ⟨by rfl, ?_⟩) hS ?_
                    rotate_left 1
                    · intro w' hSw
                      try dsimp only at hSw
                      obtain ⟨z0, z1, z2, z3, z4, y0⟩ := hSw
                      go_simp
                      all_goals with_reducible rfl
                    try simp only [Act.put, List.setIfInBounds_toArray, List.set_cons_zero, List.set_cons_succ]
                    refine held_take (i := 5) (v := ?_) 140 rfl rfl (by kernel_rfl) (by kernel_rfl) (by kernel_rfl) (fun _ _ _ h => h) (Or.inl ⟨by rfl, ?_⟩) hS ?_
                    rotate_left 1
                    · intro w' hSw
                      try dsimp only at hSw
                      obtain ⟨z0, z1, z2, z3, z4, y0⟩ := hSw
                      go_simp
                      all_goals with_reducible rfl
                    try simp only [Act.put, List.setIfInBounds_toArray, List.set_cons_zero, List.set_cons_succ]
                    refine held_take (i := 6) (v := ?_) 141 rfl rfl (by kernel_rfl) (by kernel_rfl) (by kernel_rfl) (fun _ _ _ h => h) (Or.inl ⟨by rfl, ?_⟩) hS ?_
                    rotate_left 1
                    · intro w' hSw
                      try dsimp only at hSw
                      obtain ⟨z0, z1, z2, z3, z4, y0⟩ := hSw
                      go_simp
                      all_goals with_reducible rfl
                    try simp only [Act.put, List.setIfInBounds_toArray, List.set_cons_zero, List.set_cons_succ]
                    refine held_take (i := 7) (v := ?_) 142 rfl rfl (by kernel_rfl) (by kernel_rfl) (by kernel_rfl) (fun _ _ _ h => h) (Or.inl ⟨by rfl, ?_⟩) hS ?_
                    rotate_left 1
                    · intro w' hSw
                      try dsimp only at hSw
                      obtain ⟨z0, z1, z2, z3, z4, y0⟩ := hSw
                      go_simp
                      all_goals with_reducible rfl
                    try simp only [Act.put, List.setIfInBounds_toArray, List.set_cons_zero, List.set_cons_succ]
                    refine held_one (i := 8) (by kernel_rfl) rfl rfl (fun K hK => ?_)
                    go_simp
                    refine (hla2 _ (hst2.below hbw) (hsx2.below hbw)).mono ?_
                    rintro e W3 ⟨R2, m2, rc2, rfl, hr2, hbel⟩
                    clear hS
                    replace hbw := hbw.trans (hbel.mono hbw.size)
                    replace hr2 := hr2.mono (Nat.zero_le _)
                    have hS := hS8.out _ hbw
                    refine hK _ _ hS ?_
                    clear hK K hbel
                    try simp only [Act.put, List.setIfInBounds_toArray, List.set_cons_zero, List.set_cons_succ]
                    refine held_take (i := 9) (v := ?_) 134 rfl rfl (by kernel_rfl) (by kernel_rfl) (by kernel_rfl) (fun _ _ _ h => h) (Or.inl ⟨by rfl, ?_⟩) hS ?_
                    rotate_left 1
                    · intro w' hSw
                      try dsimp only at hSw
                      obtain ⟨z0, z1, z2, z3, z4, y0⟩ := hSw
                      go_simp
                      all_goals with_reducible rfl
                    try simp only [Act.put, List.setIfInBounds_toArray, List.set_cons_zero, List.set_cons_succ]
                    refine held_take (i := 10) (v := ?_) 144 rfl rfl (by kernel_rfl) (by kernel_rfl) (by kernel_rfl) (fun _ _ _ h => h) (Or.inl ⟨by rfl, ?_⟩) hS ?_
                    rotate_left 1
                    · intro w' hSw
                      try dsimp only at hSw
                      obtain ⟨z0, z1, z2, z3, z4, y0⟩ := hSw
                      go_simp
                      all_goals with_reducible rfl
                    try simp only [Act.put, List.setIfInBounds_toArray, List.set_cons_zero, List.set_cons_succ]
                    refine held_take (i := 11) (v := ?_) 145 rfl rfl (by kernel_rfl) (by kernel_rfl) (by kernel_rfl) (fun _ _ _ h => h) (Or.inl ⟨by rfl, ?_⟩) hS ?_
                    rotate_left 1
                    · intro w' hSw
                      try dsimp only at hSw
                      obtain ⟨z0, z1, z2, z3, z4, y0⟩ := hSw
                      go_simp
                      all_goals with_reducible rfl
                    try simp only [Act.put, List.setIfInBounds_toArray, List.set_cons_zero, List.set_cons_succ]
                    refine held_take (i := 12) (v := ?_) 21 rfl rfl (by kernel_rfl) (by kernel_rfl) (by kernel_rfl) (fun _ _ _ h => h) (Or.inl ⟨by rfl, ?_⟩) hS ?_
                    rotate_left 1
                    · intro w' hSw
                      try dsimp only at hSw
                      obtain ⟨z0, z1, z2, z3, z4, y0⟩ := hSw
                      go_simp
                      all_goals with_reducible rfl
                    try simp only [Act.put, List.setIfInBounds_toArray, List.set_cons_zero, List.set_cons_succ]
                    refine held_take (i := 13) (v := ?_) 22 rfl rfl (by kernel_rfl) (by kernel_rfl) (by kernel_rfl) (fun _ _ _ h => h) (Or.inl ⟨by rfl, ?_⟩) hS ?_
                    rotate_left 1
                    · intro w' hSw
                      try dsimp only at hSw
                      obtain ⟨z0, z1, z2, z3, z4, y0⟩ := hSw
                      go_simp
                      all_goals with_reducible rfl
                    try simp only [Act.put, List.setIfInBounds_toArray, List.set_cons_zero, List.set_cons_succ]
                    refine wpAnyH_done (by kernel_rfl) (noPanic_normal ?_) _
                    clear hS hS8
                    try simp only [Act.put, List.setIfInBounds_toArray, List.set_cons_zero, List.set_cons_succ]
                    replace hbK := hbK.trans (hbw.mono hbK.size)
                    replace hrA := hrA.below hbw
                    clear hbw hst2 hsx2 hla2 p0 p1 p2 p3 p4 v0 hbP hgW
                    cases hb1 : laidB d1.s x1.xs with
                    | false =>
                      clear hrA hr2 hcs hpo1 hpo2
                      replace hb1 := Lib.hid hb1
                      go_wp2_with fail
                      go_loopw [23] (fun j wr => j = .int .i64 0 ∧ wr = W3) (fun j wr => 0)
                      case atStart => exact ⟨rfl, rfl⟩
                      case round =>
                        obtain ⟨rfl, hwe⟩ := hrel
                        rw [hwe]
                        go_wp2_with fail
                        go_roundw
                        case rel => exact ⟨k + 1, by go_num, by omega, hbK⟩
                        case measure => simp [intOf]; omega
                    | true =>
                      cases hb2 : laidB d2.s x2.xs with
                      | false =>
                        clear hrA hr2 hcs hpo1 hpo2
                        replace hb1 := Lib.hid hb1
                        replace hb2 := Lib.hid hb2
                        go_wp2_with fail
                        go_loopw [23] (fun j wr => j = .int .i64 0 ∧ wr = W3) (fun j wr => 0)
                        case atStart => exact ⟨rfl, rfl⟩
                        case round =>
                          obtain ⟨rfl, hwe⟩ := hrel
                          rw [hwe]
                          go_wp2_with fail
                          go_roundw
                          case rel => exact ⟨k + 1, by go_num, by omega, hbK⟩
                          case measure => simp [intOf]; omega
                      | true =>
                        as_aux_lemma =>
                        simp only [hb1, hb2, if_true] at hrA hr2
                        have hle1 := Lib.hid hrA.len
                        have hle2 := Lib.hid hr2.len
                        have hma := hrA.le
                        have hmb := hr2.le
                        have hcs := Lib.hid (fun (i j : Nat) (p q : Pnt) h3 h4 => hcs.out i j p q hb1 hb2 h3 h4)
                        have hpo1 := Lib.hid (fun (i : Nat) (p : Pnt) h2 => hpo1.out i p hb1 h2)
                        have hpo2 := Lib.hid (fun (i : Nat) (p : Pnt) h2 => hpo2.out i p hb2 h2)
                        generalize laidL d1.s x1.xs false = ps at *
                        generalize laidL d2.s x2.xs false = qs at *
                        replace hb1 := Lib.hid hb1
                        replace hb2 := Lib.hid hb2
                        go_wp2_with fail
                        generalize W3 = Wb at *
                        go_loopw [23] (fun j wr => ∃ i : Nat, j = .int .i64 (i : Int) ∧ i ≤ mA ∧ Below Wb.heap.size Wb wr) (fun j wr => mA - (intOf j).toNat)
                        case atStart => exact ⟨0, rfl, Nat.zero_le _, Below.refl _ _⟩
                        case round =>
                          obtain ⟨i, rfl, hi, hbJ⟩ := hrel
                          by_cases hlt1 : i < mA
                          · obtain ⟨p, hp⟩ := some_of_lt hle1.out hlt1
                            have hi0 : (0 : Int) ≤ (i : Int) := by omega
                            have hi1 : (i : Int) < (mA : Int) := by omega
                            have hpo := of_decide_eq_true (hpo1.out i p hp)
                            replace hp := Lib.hid hp
                            go_wp2_with fail
                            obtain ⟨wo, hwo⟩ : ∃ wo : World, wo = wr := ⟨_, rfl⟩
                            rw [← hwo]
                            rw [← hwo] at hbJ
                            clear hwo
                            go_loopw [24] (fun jj wr => ∃ j : Nat, jj = .int .i64 (j : Int) ∧ j ≤ m2 ∧ Below Wb.heap.size Wb wr) (fun jj wr => m2 - (intOf jj).toNat)
                            case atStart => exact ⟨0, rfl, Nat.zero_le _, hbJ⟩
                            case round =>
                              clear hbJ
                              obtain ⟨j, rfl, hj, hb9⟩ := hrel
                              by_cases hlt2 : j < m2
                              · obtain ⟨q, hq9⟩ := some_of_lt hle2.out hlt2
                                have hqo := of_decide_eq_true (hpo2.out j q hq9)
                                obtain ⟨bA, oA, hA1, -, hbA, p0, p1⟩ := (hrA.below hb9).pnt hp.out
                                obtain ⟨bB, oB, hA2, -, hbB, q0, q1⟩ := (hr2.below hb9).pnt hq9
                                subst hA1
                                subst hA2
                                have hno := hcs.out i j p q hp.out hq9
                                unfold dist2 at hno
                                have hnd : decide ((p.x - q.x) * (p.x - q.x) + (p.y - q.y) * (p.y - q.y) < v * v) = false := decide_eq_false (by omega)
                                replace hno := Lib.hid hno
                                replace hq9 := Lib.hid hq9
                                have hj0 : (0 : Int) ≤ (j : Int) := by omega
                                have hj1 : (j : Int) < (m2 : Int) := by omega
                                have e1 := IntWalk.i64_in (p.x - q.x) (by omega)
                                have e2 := IntWalk.i64_in (p.y - q.y) (by omega)
                                have s1 := sq_bd (a := p.x - q.x) (A := 65536) (by omega) (by omega)
                                have s2 := sq_bd (a := p.y - q.y) (A := 65536) (by omega) (by omega)
                                have e3 := IntWalk.i64_in ((p.x - q.x) * (p.x - q.x)) (by omega)
                                have e4 := IntWalk.i64_in ((p.y - q.y) * (p.y - q.y)) (by omega)
                                have e5 := IntWalk.i64_in ((p.x - q.x) * (p.x - q.x) + (p.y - q.y) * (p.y - q.y)) (by omega)
                                have hb8 := fun n => below_drewN hb9 n
                                clear s1 s2
                                go_wp2_with fail
                                go_quiet (fail)
                                go_wp2_with fail
                                go_roundw
                                case rel => exact ⟨j + 1, by go_num, by omega, hb8 _⟩
                                case measure => simp [intOf]; omega
                              · go_wp2_with fail
                                go_roundw
                                case rel => exact ⟨i + 1, by go_num, by omega, hb9⟩
                                case measure => simp [intOf]; omega
                          · obtain rfl : mA = i := by omega
                            go_wp2_with fail
                            go_roundw
                            case rel => exact ⟨k + 1, by go_num, by omega, hbK.trans (hbJ.mono hbK.size)⟩
                            case measure => simp [intOf]; omega
                  · obtain rfl : a = k := by omega
                    go_wp2_with fail
                    go_roundw
                    case rel => exact ⟨a + 1, by go_num, by omega, hbK⟩
                    case measure => simp [intOf]; omega
              · obtain rfl : n = a := by omega
                by_cases hqe : q = nd
                · subst hqe
                  go_wp2_with fail
                  refine (works_any _).mono ?_
                  rintro e W9 ⟨rfl, hbel2⟩
                  go_wp2
                  go_ret
                  exact ⟨rfl, (b.trans ((hb.trans (hbI.mono hb.size)).mono b.size)).trans (hbel2.mono (by have := b.size; have := hb.size; have := hbI.size; omega))⟩
                · have hqe2 : ((q : Int) == (nd : Int)) = false := by rw [beq_eq_false_iff_ne]; omega
                  have hq1 : (q : Int) < (nd : Int) := by omega
                  have hbU := hb.trans (hbI.mono hb.size)
                  have hTU := hT.out.below hbI
                  clear hbI hb hT hPI
                  replace hTU := Lib.hid hTU
                  obtain ⟨x, hx⟩ := some_of_lt hwl.out (show q < nd by omega)
                  have hxa := Lib.hid (hxo.out q x hx)
                  have hnxt := Lib.hid (stAt_succ ds bss hx)
                  rw [hcur.out] at hnxt
                  obtain ⟨bD, oD, hDA, -, hbD, y0, y1, -, -⟩ := hd.wat hx
                  subst hDA
                  have hx := Lib.hid hx
                  go_wp2_with fail
                  go_loopw [27] (fun j wr => ∃ (k : Nat) (tr2 : List IlD), j = .int .i64 (k : Int) ∧ k ≤ n ∧ TrAt W wr g n cap tr2 ∧ LiT ((stepB ds cur x.acr).take k ++ cur.drop k) tr2 ∧ Below W.heap.size W wr) (fun j wr => n - (intOf j).toNat)
                  case atStart => exact ⟨0, trs, rfl, Nat.zero_le _, hTU.out, (by rw [List.take_zero, List.drop_zero, List.nil_append]; exact hLT.out), hbU⟩
                  case round =>
                    clear hTU hbU
                    obtain ⟨k, tr2, rfl, hk, hT, hL2, hb⟩ := hrel
                    have hk0 : (0 : Int) ≤ (k : Int) := by omega
                    have hzl : Hid ((stepB ds cur x.acr).length = cur.length) := by show _ = _; exact stepB_len _ hok.out
                    have hcl : Hid (cur.length = n) := by show _ = _; rw [hok.out.1]; exact hdl.out
                    by_cases hlt : k < n
                    · as_aux_lemma =>
                      have hk1 : (k : Int) < (n : Int) := by omega
                      obtain ⟨d, hd1⟩ := some_of_lt hdl.out hlt
                      obtain ⟨c0, hc0, hok1⟩ := okT_get hok.out hd1
                      obtain ⟨y, hy⟩ := some_of_lt hT.len hlt
                      have hLy := hL2.2 k y c0 hy (by rw [mix_get (by rw [hzl.out, hcl.out]; omega) hzl.out (Nat.le_refl _)]; exact hc0)
                      have hzk := Lib.hid (stepB_at (x := x.acr) hd1 hc0)
                      obtain ⟨e1, e2, e3⟩ := clear_step (bits := bits) (2 * (q : Int) + (k : Int)) hok1.1 hok1.2 hxa.out hLy
                      have hPr := hP.below hb
                      have hst := hPr.2 d (List.mem_of_getElem? hd1)
                      unfold StOk at hst
                      rw [hst.len] at e1 e2 e3
                      obtain ⟨cg, hgW⟩ := hT.cell (by omega) hy
                      have hsy := (hT.at_ y (List.mem_of_getElem? hy)).1
                      unfold IlOk at hsy
                      have hny : y.n = d.n := by have := hLy.1; have := okOffs_len hok1.2; have := hst.len; have := hsy.len; omega
                      rw [hny] at cg hsy
                      have hn8 : d.n ≤ 8 := by have := ok_head hok1.1; unfold headOk at this; have := hst.len; omega
                      have hDr := fun W h => drifts_any x.acr d.n bits (2 * (q : Int) + (k : Int)) C nc cc 0 W (by omega) (by omega) (by omega) h
                      have hSt := fun P m W h1 h2 h3 => Step_any d.s d.A y.O P d.n d.c d.n y.c d.n m 0 0 0 y.xs (drTo x.acr bits (2 * (q : Int) + (k : Int)) d.n) W h1 h2 h3
                      simp only [e1] at hSt
                      unfold RetSl at hSt
                      generalize stepL d.s y.xs (drTo x.acr bits (2 * (q : Int) + (k : Int)) d.n) = tr1 at *
                      obtain ⟨bP, oP, hA1, -, hbP, z0, z1, z2, z3, z4⟩ := hPr.1.std hd1
                      subst hA1
                      have v0 := (hb.cell (p := ⟨bD, oD + q * 4, none⟩) hbD).trans y0
                      have v1 := (hb.cell (p := ⟨bD, oD + q * 4 + 1, none⟩) hbD).trans y1
                      have hbDr := Nat.lt_of_lt_of_le hbD hb.size
                      have u3 := IntWalk.i64_in (2 * (q : Int)) (by omega)
                      have u4 := IntWalk.i64_in (2 * (q : Int) + (k : Int)) (by omega)
                      have hqr := hq.below hb
                      replace e2 := Lib.hid e2
                      replace e3 := Lib.hid e3
                      replace hd1 := Lib.hid hd1
                      replace hy := Lib.hid hy
                      replace hL2 := Lib.hid hL2
                      replace hT := Lib.hid hT
                      clear e1 hLy hok1 hPr hny hc0
                      have hS8 : Hid (∀ W', Below wr.heap.size wr W' → (fun w' : World => w'.cell? ⟨bP, oP + k * 5, none⟩ = some (.int .i64 d.s.head) ∧ w'.cell? ⟨bP, oP + k * 5 + 1, none⟩ = some (.slice d.A d.n d.c) ∧ w'.cell? ⟨bP, oP + k * 5 + 2, none⟩ = some (.int .i64 d.s.lane.lo) ∧ w'.cell? ⟨bP, oP + k * 5 + 3, none⟩ = some (.int .i64 d.s.lane.hi) ∧ w'.cell? ⟨bP, oP + k * 5 + 4, none⟩ = some (.int .i64 d.s.bend) ∧ w'.cell? ⟨g, k, none⟩ = some (.slice y.O d.n y.c) ∧ w'.cell? ⟨bD, oD + q * 4, none⟩ = some (.int .i64 x.acr.lo) ∧ w'.cell? ⟨bD, oD + q * 4 + 1, none⟩ = some (.int .i64 x.acr.hi)) W') := by
                        show ∀ _, _
                        intro W' hbb
                        exact ⟨(hbb.cell (p := ⟨bP, oP + k * 5, none⟩) hbP).trans z0, (hbb.cell (p := ⟨bP, oP + k * 5 + 1, none⟩) hbP).trans z1, (hbb.cell (p := ⟨bP, oP + k * 5 + 2, none⟩) hbP).trans z2, (hbb.cell (p := ⟨bP, oP + k * 5 + 3, none⟩) hbP).trans z3, (hbb.cell (p := ⟨bP, oP + k * 5 + 4, none⟩) hbP).trans z4, (hbb.cell (p := ⟨g, k, none⟩) hgW).trans cg, (hbb.cell (p := ⟨bD, oD + q * 4, none⟩) hbDr).trans v0, (hbb.cell (p := ⟨bD, oD + q * 4 + 1, none⟩) hbDr).trans v1⟩
                      clear z0 z1 z2 z3 z4 cg v0 v1
                      go_wp2_with fail
                      refine wp_held_np (fun w' : World => w'.cell? ⟨bP, oP + k * 5, none⟩ = some (.int .i64 d.s.head) ∧ w'.cell? ⟨bP, oP + k * 5 + 1, none⟩ = some (.slice d.A d.n d.c) ∧ w'.cell? ⟨bP, oP + k * 5 + 2, none⟩ = some (.int .i64 d.s.lane.lo) ∧ w'.cell? ⟨bP, oP + k * 5 + 3, none⟩ = some (.int .i64 d.s.lane.hi) ∧ w'.cell? ⟨bP, oP + k * 5 + 4, none⟩ = some (.int .i64 d.s.bend) ∧ w'.cell? ⟨g, k, none⟩ = some (.slice y.O d.n y.c) ∧ w'.cell? ⟨bD, oD + q * 4, none⟩ = some (.int .i64 x.acr.lo) ∧ w'.cell? ⟨bD, oD + q * 4 + 1, none⟩ = some (.int .i64 x.acr.hi)) (by kernel_rfl) ?_
                      have hbw : Below wr.heap.size wr wr.drew := (Below.refl _ _).drew
                      have hS := hS8.out _ hbw
                      generalize wr.drew = wd at *
                      refine held_take (i := 0) (v := ?_) 208 rfl rfl (by kernel_rfl) (by kernel_rfl) (by kernel_rfl) (fun _ _ _ h => h) (Or.inl ⟨by rfl, ?_⟩) hS ?_
                      rotate_left 1
                      · intro w' hSw
                        try dsimp only at hSw
                        obtain ⟨z0, z1, z2, z3, z4, y5, y6, y7⟩ := hSw
                        go_simp
                        all_goals with_reducible rfl
                      try simp only [Act.put, List.setIfInBounds_toArray, List.set_cons_zero, List.set_cons_succ]
                      refine held_take (i := 1) (v := ?_) 209 rfl rfl (by kernel_rfl) (by kernel_rfl) (by kernel_rfl) (fun _ _ _ h => h) (Or.inl ⟨by rfl, ?_⟩) hS ?_
                      rotate_left 1
                      · intro w' hSw
                        try dsimp only at hSw
                        obtain ⟨z0, z1, z2, z3, z4, y5, y6, y7⟩ := hSw
                        go_simp
                        all_goals with_reducible rfl
                      try simp only [Act.put, List.setIfInBounds_toArray, List.set_cons_zero, List.set_cons_succ]
                      refine held_take (i := 2) (v := ?_) 210 rfl rfl (by kernel_rfl) (by kernel_rfl) (by kernel_rfl) (fun _ _ _ h => h) (Or.inl ⟨by rfl, ?_⟩) hS ?_
                      rotate_left 1
                      · intro w' hSw
                        try dsimp only at hSw
                        obtain ⟨z0, z1, z2, z3, z4, y5, y6, y7⟩ := hSw
                        go_simp
                        all_goals with_reducible rfl
                      try simp only [Act.put, List.setIfInBounds_toArray, List.set_cons_zero, List.set_cons_succ]
                      refine held_take (i := 3) (v := ?_) 211 rfl rfl (by kernel_rfl) (by kernel_rfl) (by kernel_rfl) (fun _ _ _ h => h) (Or.inl ⟨by rfl, ?_⟩) hS ?_
                      rotate_left 1
                      · intro w' hSw
                        try dsimp only at hSw
                        obtain ⟨z0, z1, z2, z3, z4, y5, y6, y7⟩ := hSw
                        go_simp
                        all_goals with_reducible rfl
                      try simp only [Act.put, List.setIfInBounds_toArray, List.set_cons_zero, List.set_cons_succ]
                      refine held_take (i := 4) (v := ?_) 212 rfl rfl (by kernel_rfl) (by kernel_rfl) (by kernel_rfl) (fun _ _ _ h => h) (Or.inl ⟨by rfl, ?_⟩) hS ?_
                      rotate_left 1
                      · intro w' hSw
                        try dsimp only at hSw
                        obtain ⟨z0, z1, z2, z3, z4, y5, y6, y7⟩ := hSw
                        go_simp
                        all_goals with_reducible rfl
                      try simp only [Act.put, List.setIfInBounds_toArray, List.set_cons_zero, List.set_cons_succ]
                      refine held_take (i := 5) (v := ?_) 213 rfl rfl (by kernel_rfl) (by kernel_rfl) (by kernel_rfl) (fun _ _ _ h => h) (Or.inl ⟨by rfl, ?_⟩) hS ?_
                      rotate_left 1
                      · intro w' hSw
                        try dsimp only at hSw
                        obtain ⟨z0, z1, z2, z3, z4, y5, y6, y7⟩ := hSw
                        go_simp
                        all_goals with_reducible rfl
                      try simp only [Act.put, List.setIfInBounds_toArray, List.set_cons_zero, List.set_cons_succ]
                      refine held_take (i := 6) (v := ?_) 214 rfl rfl (by kernel_rfl) (by kernel_rfl) (by kernel_rfl) (fun _ _ _ h => h) (Or.inl ⟨by rfl, ?_⟩) hS ?_
                      rotate_left 1
                      · intro w' hSw
                        try dsimp only at hSw
                        obtain ⟨z0, z1, z2, z3, z4, y5, y6, y7⟩ := hSw
                        go_simp
                        all_goals with_reducible rfl
                      try simp only [Act.put, List.setIfInBounds_toArray, List.set_cons_zero, List.set_cons_succ]
                      refine held_take (i := 7) (v := ?_) 215 rfl rfl (by kernel_rfl) (by kernel_rfl) (by kernel_rfl) (fun _ _ _ h => h) (Or.inl ⟨by rfl, ?_⟩) hS ?_
                      rotate_left 1
                      · intro w' hSw
                        try dsimp only at hSw
                        obtain ⟨z0, z1, z2, z3, z4, y5, y6, y7⟩ := hSw
                        go_simp
                        all_goals with_reducible rfl
                      try simp only [Act.put, List.setIfInBounds_toArray, List.set_cons_zero, List.set_cons_succ]
                      refine held_take (i := 8) (v := ?_) 216 rfl rfl (by kernel_rfl) (by kernel_rfl) (by kernel_rfl) (fun _ _ _ h => h) (Or.inl ⟨by rfl, ?_⟩) hS ?_
                      rotate_left 1
                      · intro w' hSw
                        try dsimp only at hSw
                        obtain ⟨z0, z1, z2, z3, z4, y5, y6, y7⟩ := hSw
                        go_simp
                        all_goals with_reducible rfl
                      try simp only [Act.put, List.setIfInBounds_toArray, List.set_cons_zero, List.set_cons_succ]
                      refine held_take (i := 9) (v := ?_) 217 rfl rfl (by kernel_rfl) (by kernel_rfl) (by kernel_rfl) (fun _ _ _ h => h) (Or.inl ⟨by rfl, ?_⟩) hS ?_
                      rotate_left 1
                      · intro w' hSw
                        try dsimp only at hSw
                        obtain ⟨z0, z1, z2, z3, z4, y5, y6, y7⟩ := hSw
                        go_simp
                        all_goals with_reducible rfl
                      try simp only [Act.put, List.setIfInBounds_toArray, List.set_cons_zero, List.set_cons_succ]
                      refine held_take (i := 10) (v := ?_) 218 rfl rfl (by kernel_rfl) (by kernel_rfl) (by kernel_rfl) (fun _ _ _ h => h) (Or.inl ⟨by rfl, ?_⟩) hS ?_
                      rotate_left 1
                      · intro w' hSw
                        try dsimp only at hSw
                        obtain ⟨z0, z1, z2, z3, z4, y5, y6, y7⟩ := hSw
                        go_simp
                        all_goals with_reducible rfl
                      try simp only [Act.put, List.setIfInBounds_toArray, List.set_cons_zero, List.set_cons_succ]
                      refine held_take (i := 11) (v := ?_) 219 rfl rfl (by kernel_rfl) (by kernel_rfl) (by kernel_rfl) (fun _ _ _ h => h) (Or.inl ⟨by rfl, ?_⟩) hS ?_
                      rotate_left 1
                      · intro w' hSw
                        try dsimp only at hSw
                        obtain ⟨z0, z1, z2, z3, z4, y5, y6, y7⟩ := hSw
                        go_simp
                        all_goals with_reducible rfl
                      try simp only [Act.put, List.setIfInBounds_toArray, List.set_cons_zero, List.set_cons_succ]
                      refine held_take (i := 12) (v := ?_) 220 rfl rfl (by kernel_rfl) (by kernel_rfl) (by kernel_rfl) (fun _ _ _ h => h) (Or.inl ⟨by rfl, ?_⟩) hS ?_
                      rotate_left 1
                      · intro w' hSw
                        try dsimp only at hSw
                        obtain ⟨z0, z1, z2, z3, z4, y5, y6, y7⟩ := hSw
                        go_simp
                        all_goals with_reducible rfl
                      try simp only [Act.put, List.setIfInBounds_toArray, List.set_cons_zero, List.set_cons_succ]
                      refine held_take (i := 13) (v := ?_) 221 rfl rfl (by kernel_rfl) (by kernel_rfl) (by kernel_rfl) (fun _ _ _ h => h) (Or.inl ⟨by rfl, ?_⟩) hS ?_
                      rotate_left 1
                      · intro w' hSw
                        try dsimp only at hSw
                        obtain ⟨z0, z1, z2, z3, z4, y5, y6, y7⟩ := hSw
                        go_simp
                        all_goals with_reducible rfl
                      try simp only [Act.put, List.setIfInBounds_toArray, List.set_cons_zero, List.set_cons_succ]
                      refine held_take (i := 14) (v := ?_) 222 rfl rfl (by kernel_rfl) (by kernel_rfl) (by kernel_rfl) (fun _ _ _ h => h) (Or.inl ⟨by rfl, ?_⟩) hS ?_
                      rotate_left 1
                      · intro w' hSw
                        try dsimp only at hSw
                        obtain ⟨z0, z1, z2, z3, z4, y5, y6, y7⟩ := hSw
                        go_simp
                        all_goals with_reducible rfl
                      try simp only [Act.put, List.setIfInBounds_toArray, List.set_cons_zero, List.set_cons_succ]
                      refine held_take (i := 15) (v := ?_) 223 rfl rfl (by kernel_rfl) (by kernel_rfl) (by kernel_rfl) (fun _ _ _ h => h) (Or.inl ⟨by rfl, ?_⟩) hS ?_
                      rotate_left 1
                      · intro w' hSw
                        try dsimp only at hSw
                        obtain ⟨z0, z1, z2, z3, z4, y5, y6, y7⟩ := hSw
                        go_simp
                        all_goals with_reducible rfl
                      try simp only [Act.put, List.setIfInBounds_toArray, List.set_cons_zero, List.set_cons_succ]
                      refine held_take (i := 16) (v := ?_) 224 rfl rfl (by kernel_rfl) (by kernel_rfl) (by kernel_rfl) (fun _ _ _ h => h) (Or.inl ⟨by rfl, ?_⟩) hS ?_
                      rotate_left 1
                      · intro w' hSw
                        try dsimp only at hSw
                        obtain ⟨z0, z1, z2, z3, z4, y5, y6, y7⟩ := hSw
                        go_simp
                        all_goals with_reducible rfl
                      try simp only [Act.put, List.setIfInBounds_toArray, List.set_cons_zero, List.set_cons_succ]
                      refine held_take (i := 17) (v := ?_) 225 rfl rfl (by kernel_rfl) (by kernel_rfl) (by kernel_rfl) (fun _ _ _ h => h) (Or.inl ⟨by rfl, ?_⟩) hS ?_
                      rotate_left 1
                      · intro w' hSw
                        try dsimp only at hSw
                        obtain ⟨z0, z1, z2, z3, z4, y5, y6, y7⟩ := hSw
                        go_simp
                        all_goals with_reducible rfl
                      try simp only [Act.put, List.setIfInBounds_toArray, List.set_cons_zero, List.set_cons_succ]
                      refine held_take (i := 18) (v := ?_) 226 rfl rfl (by kernel_rfl) (by kernel_rfl) (by kernel_rfl) (fun _ _ _ h => h) (Or.inl ⟨by rfl, ?_⟩) hS ?_
                      rotate_left 1
                      · intro w' hSw
                        try dsimp only at hSw
                        obtain ⟨z0, z1, z2, z3, z4, y5, y6, y7⟩ := hSw
                        go_simp
                        all_goals with_reducible rfl
                      try simp only [Act.put, List.setIfInBounds_toArray, List.set_cons_zero, List.set_cons_succ]
                      refine held_take (i := 19) (v := ?_) 227 rfl rfl (by kernel_rfl) (by kernel_rfl) (by kernel_rfl) (fun _ _ _ h => h) (Or.inl ⟨by rfl, ?_⟩) hS ?_
                      rotate_left 1
                      · intro w' hSw
                        try dsimp only at hSw
                        obtain ⟨z0, z1, z2, z3, z4, y5, y6, y7⟩ := hSw
                        go_simp
                        all_goals with_reducible rfl
                      try simp only [Act.put, List.setIfInBounds_toArray, List.set_cons_zero, List.set_cons_succ]
                      refine held_take (i := 20) (v := ?_) 228 rfl rfl (by kernel_rfl) (by kernel_rfl) (by kernel_rfl) (fun _ _ _ h => h) (Or.inl ⟨by rfl, ?_⟩) hS ?_
                      rotate_left 1
                      · intro w' hSw
                        try dsimp only at hSw
                        obtain ⟨z0, z1, z2, z3, z4, y5, y6, y7⟩ := hSw
                        go_simp
                        all_goals with_reducible rfl
                      try simp only [Act.put, List.setIfInBounds_toArray, List.set_cons_zero, List.set_cons_succ]
                      refine held_take (i := 21) (v := ?_) 229 rfl rfl (by kernel_rfl) (by kernel_rfl) (by kernel_rfl) (fun _ _ _ h => h) (Or.inl ⟨by rfl, ?_⟩) hS ?_
                      rotate_left 1
                      · intro w' hSw
                        try dsimp only at hSw
                        obtain ⟨z0, z1, z2, z3, z4, y5, y6, y7⟩ := hSw
                        go_simp
                        all_goals with_reducible rfl
                      try simp only [Act.put, List.setIfInBounds_toArray, List.set_cons_zero, List.set_cons_succ]
                      refine held_take (i := 22) (v := ?_) 230 rfl rfl (by kernel_rfl) (by kernel_rfl) (by kernel_rfl) (fun _ _ _ h => h) (Or.inl ⟨by rfl, ?_⟩) hS ?_
                      rotate_left 1
                      · intro w' hSw
                        try dsimp only at hSw
                        obtain ⟨z0, z1, z2, z3, z4, y5, y6, y7⟩ := hSw
                        go_simp
                        all_goals with_reducible rfl
                      try simp only [Act.put, List.setIfInBounds_toArray, List.set_cons_zero, List.set_cons_succ]
                      refine held_take (i := 23) (v := ?_) 231 rfl rfl (by kernel_rfl) (by kernel_rfl) (by kernel_rfl) (fun _ _ _ h => h) (Or.inl ⟨by rfl, ?_⟩) hS ?_
                      rotate_left 1
                      · intro w' hSw
                        try dsimp only at hSw
                        obtain ⟨z0, z1, z2, z3, z4, y5, y6, y7⟩ := hSw
                        go_simp
                        all_goals with_reducible rfl
                      try simp only [Act.put, List.setIfInBounds_toArray, List.set_cons_zero, List.set_cons_succ]
                      clear u3 u4
                      refine held_one (i := 24) (by kernel_rfl) rfl rfl (fun K hK => ?_)
                      go_simp
                      refine (hDr _ (hqr.below hbw)).mono ?_
                      rintro e W3 ⟨P5, m5, rfl, hr5, hbel⟩
                      clear hS hDr
                      replace hbw := hbw.trans (hbel.mono hbw.size)
                      replace hr5 := hr5.mono (Nat.zero_le _)
                      have hS := hS8.out _ hbw
                      refine hK _ _ hS ?_
                      clear hK K hbel
                      try simp only [Act.put, List.setIfInBounds_toArray, List.set_cons_zero, List.set_cons_succ]
                      refine held_one (i := 25) (by kernel_rfl) rfl rfl (fun K hK => ?_)
                      go_simp
                      refine (hSt P5 m5 _ (hst.below hbw) (hsy.below hbw) hr5).mono ?_
                      rintro e W4 ⟨P6, n6, m6, rfl, hr6, hbel⟩
                      clear hS hSt hr5
                      have hgW3 : g < W3.heap.size := Nat.lt_of_lt_of_le hgW hbw.size
                      obtain rfl : n6 = d.n := by have h9 : tr1.length = n6 := hr6.len; have := e3.out; omega
                      have hoQ : OffA g P6 d.n := OffA.above hr6 (by omega)
                      replace hr6 := hr6.mono (Nat.zero_le _)
                      replace hbw := hbw.trans (hbel.mono hbw.size)
                      have hS := hS8.out _ hbw
                      refine hK _ _ hS ?_
                      clear hK K hbel
                      try simp only [Act.put, List.setIfInBounds_toArray, List.set_cons_zero, List.set_cons_succ]
                      refine held_take (i := 26) (v := ?_) 207 rfl rfl (by kernel_rfl) (by kernel_rfl) (by kernel_rfl) (fun _ _ _ h => h) (Or.inl ⟨by rfl, ?_⟩) hS ?_
                      rotate_left 1
                      · intro w' hSw
                        try dsimp only at hSw
                        obtain ⟨z0, z1, z2, z3, z4, y5, y6, y7⟩ := hSw
                        go_simp
                        all_goals with_reducible rfl
                      try simp only [Act.put, List.setIfInBounds_toArray, List.set_cons_zero, List.set_cons_succ]
                      refine held_take (i := 27) (v := ?_) 234 rfl rfl (by kernel_rfl) (by kernel_rfl) (by kernel_rfl) (fun _ _ _ h => h) (Or.inl ⟨by rfl, ?_⟩) hS ?_
                      rotate_left 1
                      · intro w' hSw
                        try dsimp only at hSw
                        obtain ⟨z0, z1, z2, z3, z4, y5, y6, y7⟩ := hSw
                        go_simp
                        all_goals with_reducible rfl
                      try simp only [Act.put, List.setIfInBounds_toArray, List.set_cons_zero, List.set_cons_succ]
                      refine held_take (i := 28) (v := ?_) 235 rfl rfl (by kernel_rfl) (by kernel_rfl) (by kernel_rfl) (fun _ _ _ h => h) (Or.inl ⟨by rfl, ?_⟩) hS ?_
                      rotate_left 1
                      · intro w' hSw
                        try dsimp only at hSw
                        obtain ⟨z0, z1, z2, z3, z4, y5, y6, y7⟩ := hSw
                        go_simp
                        all_goals with_reducible rfl
                      try simp only [Act.put, List.setIfInBounds_toArray, List.set_cons_zero, List.set_cons_succ]
                      refine held_take (i := 29) (v := ?_) 28 rfl rfl (by kernel_rfl) (by kernel_rfl) (by kernel_rfl) (fun _ _ _ h => h) (Or.inl ⟨by rfl, ?_⟩) hS ?_
                      rotate_left 1
                      · intro w' hSw
                        try dsimp only at hSw
                        obtain ⟨z0, z1, z2, z3, z4, y5, y6, y7⟩ := hSw
                        go_simp
                        all_goals with_reducible rfl
                      try simp only [Act.put, List.setIfInBounds_toArray, List.set_cons_zero, List.set_cons_succ]
                      refine held_take (i := 30) (v := ?_) 29 rfl rfl (by kernel_rfl) (by kernel_rfl) (by kernel_rfl) (fun _ _ _ h => h) (Or.inl ⟨by rfl, ?_⟩) hS ?_
                      rotate_left 1
                      · intro w' hSw
                        try dsimp only at hSw
                        obtain ⟨z0, z1, z2, z3, z4, y5, y6, y7⟩ := hSw
                        go_simp
                        all_goals with_reducible rfl
                      try simp only [Act.put, List.setIfInBounds_toArray, List.set_cons_zero, List.set_cons_succ]
                      refine wpAnyH_done (by kernel_rfl) (noPanic_normal ?_) _
                      have hcgg := hS.2.2.2.2.2.1
                      clear hS hS8 hst hsy hqr
                      try simp only [Act.put, List.setIfInBounds_toArray, List.set_cons_zero, List.set_cons_succ]
                      have hT4 := hT.out.below hbw
                      have cg4 := (hT4.cell (by omega) hy.out).1
                      have fr4 := hT4.own.frozenAt k
                      have hT5 := Lib.hid (hT4.set hy.out (y := ⟨tr1, P6, d.n, m6⟩) hr6 hoQ)
                      have hb5 := (hb.trans (hbw.mono hb.size)).setCell (p := ⟨g, k, none⟩) hg (.slice P6 d.n m6)
                      have hL5 := Lib.hid (LiT.set (o := ⟨tr1, P6, d.n, m6⟩) hzl.out hL2.out hzk.out e2.out)
                      clear hT4 hcgg hbw
                      go_wp2_with fail
                      go_roundw
                      case rel => exact ⟨k + 1, tr2.set k ⟨tr1, P6, d.n, m6⟩, by go_num, by omega, hT5.out, hL5.out, hb5⟩
                      case measure => simp [intOf]; omega
                    · obtain rfl : n = k := by omega
                      have hfin := Lib.hid (LiT.all (by rw [hzl.out, hcl.out]) hcl.out hL2)
                      rw [← hnxt.out] at hfin
                      clear hL2
                      replace hT := Lib.hid hT
                      go_wp2_with fail
                      go_roundw
                      case rel => exact ⟨q + 1, tr2, by go_num, by omega, hT.out, hfin.out, hb⟩
                      case measure => simp [intOf]; omega
          · go_wp2_with fail
            refine (works_any _).mono ?_
            rintro e W9 ⟨rfl, hbel2⟩
            go_wp2
            go_ret
            exact ⟨rfl, (b.trans (hb.mono b.size)).trans (hbel2.mono (by have := b.size; have := hb.size; omega))⟩
  · have her2 := tangR_err her
    rw [her2] at h1
    obtain ⟨er, her3⟩ : ∃ x, x = (tangR ds es l v).2 := ⟨_, rfl⟩
    rw [← her3] at her h1
    have hz : (er != 0) = true := by rw [bne_iff_ne]; exact her
    replace her := Lib.hid her
    replace her3 := Lib.hid her3
    clear h2 her2
    go_enter Tryz.func8, Tryz.ntmps8
    go_wp2_with fail
    refine (h0 _ hA).mono ?_
    rintro e W ⟨P, pc, Q, qc, rfl, hP, hQ, hbel⟩
    clear h0 hA
    replace b := b.trans (hbel.mono b.size)
    replace hd := hd.below hbel
    clear hbel
    go_wp2_with fail
    refine (h1 _ _ _ _ _ hP hQ hd).mono ?_
    rintro e W ⟨rfl, hbel⟩
    clear h1
    replace b := b.trans (hbel.mono b.size)
    dsimp only
    go_wp2_with fail
    refine (works_any _).mono ?_
    rintro e W9 ⟨rfl, hbel2⟩
    go_wp2
    go_ret
    exact ⟨rfl, b.trans (hbel2.mono b.size)⟩
end Go.Proofs.YtjiaepphnddpoaaGreat
