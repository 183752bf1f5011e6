/-
  Walks: Tangle of package tow.
  Walks: Tangle of package tow.
-/
import Derived.Test.YthjdjpcomocffaaGreatG16
namespace Go.Proofs.YthjdjpcomocffaaGreat
open Go.RowKit Go.Shelf
set_option linter.unusedSimpArgs false
set_option linter.unusedVariables false
attribute [local go_sem] Tryz.run_fieldB

structure RgD where
  rs : List Reg
  O : Option Addr
  n : Nat
  c : Nat
def RgD.cells (d : RgD) : List Value := [.slice d.O d.n d.c]
def RgOk (w : World) (d : RgD) : Prop := SlAt w 0 8 Reg.cells d.O d.n d.c d.rs
theorem SlAt.rgd {w : World} {B n c k : Nat} {A : Option Addr} {xs : List RgD} {d : RgD} (h : SlAt w B 1 RgD.cells A n c xs) (hk : xs[k]? = some d) :
    ∃ b off, A = some ⟨b, off, none⟩ ∧ B ≤ b ∧ b < w.heap.size ∧ w.cell? ⟨b, off + k, none⟩ = some (.slice d.O d.n d.c) := by
  obtain ⟨b, off, hA, hB, hb, hc⟩ := h.at_ hk
  refine ⟨b, off, hA, hB, hb, ?_⟩
  have := hc 0 _ rfl
  simpa using this
theorem Tryz.infoRs : (Tryz.prog.info? 61).map (fun i => (i.zero, i.size, i.bytes)) = some (some (.slice none 0 0), 1, 24) := by kernel_rfl
theorem SlAt.offSet {α : Type} {w : World} {B s n c g j : Nat} {enc : α → List Value} {A : Option Addr} {xs : List α} (h : SlAt w B s enc A n c xs) (ho : OffA g A n) (u : Value) : SlAt (w.setCell ⟨g, j, none⟩ u) B s enc A n c xs := by
  refine ⟨h.1, h.2.1, h.2.2.1, fun hn => ?_⟩
  obtain ⟨b, o, hA, hB, hb, hc⟩ := h.2.2.2 hn
  refine ⟨b, o, hA, hB, by simpa [World.setCell] using hb, fun k x hk j v hv => ?_⟩
  refine Eq.trans (World.cell?_setCell_other _ _ _ _ ?_) (hc k x hk j v hv)
  intro e
  have := ho hn b o hA
  injection e with e1
  exact this e1.symm
/-- A row whose block is another one is kept over an append. -/
theorem SlAt.grownOff {α : Type} {w w' : World} {B s n c : Nat} {enc : α → List Value} {A : Option Addr} {xs : List α} {row : Option Nat} (h : SlAt w B s enc A n c xs) (hg : w.grownBy w' row) (ho : ∀ g, row = some g → OffA g A n) : SlAt w' B s enc A n c xs := by
  refine ⟨h.1, h.2.1, h.2.2.1, fun hn => ?_⟩
  obtain ⟨b, o, hA, hB, hb, hc⟩ := h.2.2.2 hn
  refine ⟨b, o, hA, hB, Nat.lt_of_lt_of_le hb hg.size, fun k x hk j v hv => ?_⟩
  refine Eq.trans ?_ (hc k x hk j v hv)
  exact cell_eq (hg.block b hb (fun e => ho b e.symm hn b o hA rfl)) _
theorem bdd_one (l : List BdD) : ∀ u ∈ l.flatMap BdD.cells, u.oneCell' = true := by
  intro u hu
  obtain ⟨x, -, hx⟩ := List.mem_flatMap.1 hu
  simp [BdD.cells] at hx
  subst hx; rfl
set_option maxRecDepth 100000 in
set_option maxHeartbeats 1000000 in
theorem CloneBs_any (l : List BdD) (A : Option Addr) (n c B : Nat) (w : World) (hn0 : 0 < n) (hn : n ≤ 1000000) (hs : SlAt w B 1 BdD.cells A n c l) :
    Calls Tryz.prog 51 #[.slice A n c] w fun e w' => ∃ g pc, e = .returned (.slice (some ⟨g, 0, none⟩) n pc) ∧ w'.ownsRow w.heap.size 36 1 (.slice (some ⟨g, 0, none⟩) n pc) n (l.flatMap BdD.cells) ∧ Below w.heap.size w w' := by
  have hl := Lib.hid hs.len
  obtain ⟨b, off, hA, -, hbl, -⟩ := hs.2.2.2 hn0
  subst hA
  have hown := own_none w 36 1
  have hbf := (Below.refl w.heap.size w).alloc (Nat.le_refl _) (.cells #[] 36)
  have hnews := Lib.hid (SlAt.news (enc := BdD.cells) (s := 1) (fun _ => rfl) (hs.alloc (.cells #[] 36)) hn0)
  have hlen : Hid ((l.flatMap BdD.cells).length = n * 1) := by show _ = _; rw [flat_len (s := 1) (fun _ => rfl), hl.out]
  have hone := Lib.hid (bdd_one l)
  have hbig1 : Hid (0 + n ≤ maxLen) := by show 0 + n ≤ maxLen; unfold maxLen; omega
  have hbig2 : Hid ((0 + n) * 24 ≤ 140737488355328) := by show (0 + n) * 24 ≤ 140737488355328; omega
  obtain ⟨i0, hi0, hz0, hz1, hz2⟩ := info_parts Tryz.infoBs
  clear hs
  have hnil := fun W => Lib.run_eql_slice_nil (P := Tryz.prog) W 66 36 (some ⟨b, off, none⟩) n c 0 0 Tryz.underlying66
  simp only [Option.isNone_some] at hnil
  go_enter Tryz.func51, Tryz.ntmps51
  go_wp2_with (at_builtin; refine wpList_append_lies _ rfl (.tmp 5) (.tmp 6) 66 rfl w.heap.size 36 i0 (.slice none 0 0) 1 24 Tryz.underlying66 hi0 hz0 hz1 hz2 rfl (by decide) (.slice (some ⟨w.heap.size, 0, none⟩) 0 0) 0 [] rfl hown ⟨b, off, none⟩ n c (l.flatMap BdD.cells) rfl hlen.out hnews.out hone.out hn0 hbig1.out hbig2.out hbf.size (w.heap.size + 1) (by simp) ?_; intro g cap w7 hown7 hgrow hlies hlt7)
  go_ret
  have hbg : Below w.heap.size _ w7 := ⟨hgrow.os, hgrow.tape, hgrow.output, hgrow.size, fun b hb2 => hgrow.block b (Nat.lt_of_lt_of_le hb2 hbf.size) (fun e => by have := (hown.lt _ e.symm).1; omega)⟩
  refine ⟨g, cap, rfl, ?_, hbf.trans hbg⟩
  rw [Nat.zero_add, List.nil_append] at hown7
  exact hown7
end Go.Proofs.YthjdjpcomocffaaGreat
namespace Go.Proofs.YthjdjpcomocffaaGreat
open Go.RowKit Go.Shelf
set_option linter.unusedSimpArgs false
set_option linter.unusedVariables false
attribute [local go_sem] Tryz.run_fieldB

theorem zip_takeT {α β γ : Type} {f : α → β → γ} {xs : List α} {ys : List β} {k : Nat} {x : α} {y : β} (h1 : xs[k]? = some x) (h2 : ys[k]? = some y) : (List.zipWith f xs ys).take (k + 1) = (List.zipWith f xs ys).take k ++ [f x y] := by
  rw [List.take_add_one]
  simp [List.getElem?_zipWith, h1, h2]
/-- Some elements new, the others as they were. -/
theorem mix_get {α : Type} {xs ys : List α} {k : Nat} (hx : k ≤ xs.length) (hl : xs.length = ys.length) {i : Nat} (hi : k ≤ i) : (xs.take k ++ ys.drop k)[i]? = ys[i]? := by
  rw [List.getElem?_append_right (by rw [List.length_take]; omega), List.length_take, List.getElem?_drop]
  rw [show k + (i - min k xs.length) = i by omega]
theorem mix_set {α : Type} {xs ys : List α} {k : Nat} {x : α} (hl : xs.length = ys.length) (hk : k < xs.length) (h : xs[k]? = some x) : (xs.take k ++ ys.drop k).set k x = xs.take (k + 1) ++ ys.drop (k + 1) := by
  refine List.ext_getElem? fun i => ?_
  rw [List.getElem?_set]
  have hll : (xs.take k ++ ys.drop k).length = xs.length := by simp; omega
  by_cases hi : k = i
  · subst hi
    rw [if_pos rfl, if_pos (by omega), List.getElem?_append_left (by simp; omega), List.getElem?_take_of_lt (by omega), h]
  · rw [if_neg hi]
    by_cases hlt : i < k
    · rw [List.getElem?_append_left (by simp; omega), List.getElem?_append_left (by simp; omega), List.getElem?_take_of_lt (by omega), List.getElem?_take_of_lt (by omega)]
    · rw [mix_get (by omega) hl (by omega), mix_get (by omega) hl (by omega)]
set_option maxRecDepth 100000 in
set_option maxHeartbeats 4000000 in
theorem Tangle_any (L M D : Option Addr) (n c m cm nd cd : Nat) (v : Int) (ds : List StD) (es : List BdD) (ws : List Wat) (w : World) (hL : SpL w L n c ds) (hM : BpL w M m cm es) (hD : SlAt w 0 4 Wat.cells D nd cd ws) :
    Calls Tryz.prog 19 #[.slice L n c, .slice M m cm, .slice D nd cd, .int .i64 v] w fun e w' => e = .returned (.tuple #[.int .i64 (tangR ds es ws v).1, .int .i64 (tangR ds es ws v).2]) ∧ Below w.heap.size w w' := by
  have hdl := Lib.hid hL.1.len
  have hel := Lib.hid hM.1.len
  have hwl := Lib.hid hD.len
  have hsp : ∀ W, SpL W L n c ds → BpL W M m cm es → Calls Tryz.prog 48 #[.slice L n c, .slice M m cm] W fun e w' => ∃ P np cp, e = .returned (.tuple #[.slice P np cp, .int .i64 (if sprOk ds es = true then 0 else 36)]) ∧ (sprOk ds es = true → np = ds.length ∧ SlAt w' W.heap.size 6 TlD.cells P np cp (zipT ds es)) ∧ Below W.heap.size W w' := fun W h1 h2 => spread_any L M n c m cm ds es W h1 h2
  have hwt := fun W h => waters_any D nd cd 0 ws W h
  have hbt := fun W => within_any v 0 32768 W
  have b : Below w.heap.size w w := Below.refl _ _
  have hL0 := hL
  have hM0 := hM
  have hD0 := hD
  cases hs : sprOk ds es with
  | false =>
    have hv : tangR ds es ws v = (0, 36) := by unfold tangR; rw [hs]; rfl
    rw [hv]
    simp only [hs, Bool.false_eq_true, if_false] at hsp
    clear hv hs hbt hwt
    go_enter Tryz.func19, Tryz.ntmps19
    go_wp2_with fail
    refine (hsp _ hL hM).mono ?_
    rintro e W ⟨P, np, cp, rfl, hP, hbel⟩
    clear hsp
    replace hM := hM.below hbel
    replace hD := hD.below hbel
    replace b := b.trans (hbel.mono b.size)
    clear hbel
    clear hP
    go_wp2
    go_ret2
    exact ⟨rfl, b⟩
  | true =>
    simp only [hs, if_true] at hsp
    by_cases hc0 : chkWats ws = 0
    · by_cases hvr : 0 ≤ v ∧ v ≤ 32768
      · simp only [decide_eq_true hvr] at hbt
        have hv : Hid (tangR ds es ws v = (tanS ds (es.map (·.bs)) ws v, 0)) := by show _ = _; unfold tangR; rw [hs, if_pos rfl, if_pos hc0, if_pos hvr]
        have hst := okT_start hs
        have hww : okWats ws = true := by unfold chkWats at hc0; split at hc0; assumption; cases hc0
        have hat := Lib.hid (okT_at hst hww)
        have h48 : nd ≤ 48 := by
          have := hww
          unfold okWats at this
          simp only [Bool.and_eq_true, decide_eq_true_eq] at this
          have := hwl.out; omega
        have hwok : Hid (∀ x ∈ ws, okBnd 100 x.acr = true) := by
          show ∀ _, _
          intro x hx
          unfold okWats at hww
          simp only [Bool.and_eq_true] at hww
          have := List.all_eq_true.1 hww.2 x hx
          unfold okWat at this
          simp only [Bool.and_eq_true] at this
          exact this.1
        obtain ⟨⟨hl1, hl4⟩, hlm, -⟩ := sprOk_iff hs
        have hnm : m = n := by have := hdl.out; have := hel.out; omega
        subst hnm
        have hn4 : m ≤ 4 := by have := hdl.out; omega
        have hn1 : 0 < m := by have := hdl.out; omega
        simp only [hc0] at hwt
        have m1 := sq_bd (a := v) (A := 32768) (by omega) (by omega)
        have u1 := IntWalk.i64_in (v * v) (by omega)
        clear hs hst hww hc0 hvr hl1 hl4 hlm m1
        obtain ⟨bss, hbss⟩ : ∃ q, es.map (·.bs) = q := ⟨_, rfl⟩
        rw [hbss] at hv hat
        obtain ⟨is, ish, is0, is1, is2⟩ := info_parts Tryz.infoRs
        go_enter Tryz.func19, Tryz.ntmps19
        go_wp2_with fail
        refine (hsp _ hL hM).mono ?_
        rintro e W ⟨P, np, cp, rfl, hP, hbel⟩
        clear hsp
        replace hM := hM.below hbel
        replace hD := hD.below hbel
        replace b := b.trans (hbel.mono b.size)
        clear hbel
        have hP0 := hP trivial
        clear hP
        obtain ⟨hnp, hP⟩ := hP0
        obtain rfl : np = m := by have := hdl.out; omega
        clear hnp
        replace hP := hP.mono (Nat.zero_le _)
        go_wp2_with fail
        refine (hwt _ hD).mono ?_
        rintro e W1 ⟨rfl, hbel⟩
        replace hP := hP.below hbel
        replace hM := hM.below hbel
        replace hD := hD.below hbel
        replace b := b.trans (hbel.mono b.size)
        clear hbel
        go_wp2_with fail
        refine (hbt _).mono ?_
        rintro e w' ⟨rfl, rfl⟩
        clear hwt hbt hL
        go_wp2_with fail
        refine (CloneBs_any es M np cm 0 W1 hn1 (by omega) hM.1).mono ?_
        rintro e W2 ⟨g, pc, rfl, hown, hbC⟩
        have hM2 : ∀ f ∈ es, BdOk W2 f ∧ OffA g f.O f.n := fun f hf => ⟨SlAt.below (hM.2 f hf) hbC, OffA.below (hM.2 f hf) (hown.lt g rfl).1⟩
        have hgW : W1.heap.size ≤ g := (hown.lt g rfl).1
        clear hM
        go_wp2_with fail
        go_loopw [14] (fun j wr => ∃ q : Nat, ∃ fs : List BdD, j = .int .i64 q ∧ q ≤ nd ∧ wr.ownsRow W1.heap.size 36 1 (.slice (some ⟨g, 0, none⟩) np pc) np (fs.flatMap BdD.cells) ∧ fs.length = np ∧ (∀ f ∈ fs, BdOk wr f ∧ OffA g f.O f.n) ∧ fs.map (·.bs) = stAt ds bss ws q ∧ noneB (fun j => hitJ ds v (stAt ds bss ws j)) q ∧ Below W1.heap.size W1 wr) (fun j wr => nd + 1 - (intOf j).toNat)
        case atStart => exact ⟨0, es, rfl, Nat.zero_le _, hown, hel.out, hM2, hbss, (fun j hj => absurd hj (Nat.not_lt_zero _)), hbC⟩
        case round =>
          clear hown hM2 hbC
          obtain ⟨q, fs, rfl, hq, hown, hfl, hfs, hmap, hno, hbC⟩ := hrel
          replace hno := Lib.hid hno
          replace hfl := Lib.hid hfl
          replace hfs := Lib.hid hfs
          have hok := Lib.hid (hat.out q)
          replace hmap := Lib.hid hmap
          obtain ⟨cur, hcur⟩ : ∃ x, stAt ds bss ws q = x := ⟨_, rfl⟩
          rw [hcur] at hmap hok
          obtain ⟨w0, hw0⟩ : ∃ x, x = wr := ⟨_, rfl⟩
          rw [← hw0]
          rw [← hw0] at hown hfs hbC
          clear hw0
          have hP0 := Lib.hid (hP.below hbC)
          go_wp2_with fail
          go_loopw [15, 46] (fun vw ki wr => ∃ r : Nat, ∃ gs : List RgD, ki = .int .i64 r ∧ r ≤ np ∧ wr.ownsRow w0.heap.size 61 1 vw r (gs.flatMap RgD.cells) ∧ gs.length = r ∧ (∀ k x, gs[k]? = some x → x.rs = nAt ds cur k ∧ 0 < x.n ∧ Good x.rs) ∧ (∀ x ∈ gs, RgOk wr x ∧ ∀ g, vw.ownBlock = some g → OffA g x.O x.n) ∧ (∀ a, a < r → ∀ k, k < a → pairH ds cur v a k = false) ∧ Below w0.heap.size w0 wr) (fun vw ki wr => np - (intOf ki).toNat)
          case atStart => exact ⟨0, [], rfl, Nat.zero_le _, ⟨rfl, .inl ⟨rfl, rfl⟩⟩, rfl, (fun k x h => by cases h), (fun f hf => absurd hf List.not_mem_nil), (fun a' h => absurd h (Nat.not_lt_zero _)), Below.refl _ _⟩
          case round =>
            obtain ⟨r, gs, rfl, hr, hwh, hgl, hgn, hgo, hpr, hb⟩ := hrel
            replace hpr := Lib.hid hpr
            replace hgl := Lib.hid hgl
            replace hgn := Lib.hid hgn
            replace hgo := Lib.hid hgo
            by_cases hlt : r < np
            · have hr0 : (0 : Int) ≤ (r : Int) := by omega
              have hr1 : (r : Int) < (np : Int) := by omega
              obtain ⟨d, hd⟩ := some_of_lt hdl.out hlt
              obtain ⟨e0, he0⟩ := some_of_lt hel.out hlt
              obtain ⟨f, hf⟩ := some_of_lt hfl.out hlt
              have hde := okT_ok hok.out hmap.out hd hf
              have hnt := Lib.hid (nAt_eq hmap.out hd hf)
              have hgd : Hid (Good (nAt ds cur r)) := by show Good _; rw [hnt.out]; exact nodes_good (errB_ofP hde)
              obtain ⟨bP, oP, hA, -, hbP, z0, z1, z2, z3, z4, z5⟩ := hP0.out.tld (zipT_at hd he0)
              subst hA
              have hsl := SlAt.own (enc := BdD.cells) hown (by omega) fs rfl (fun _ => rfl) hfl.out
              obtain ⟨b9, o9, hA9, -, hb9g, y0⟩ := hsl.bdd hf
              simp only [Option.some.injEq, Addr.mk.injEq] at hA9
              obtain ⟨rfl, rfl, -⟩ := hA9
              rw [Nat.zero_add] at y0
              have hsd : StOk w0 d := SlAt.below ((hL0.below b).2 d (List.mem_of_getElem? hd)) hbC
              have hsb : BdOk w0 f := (hfs.out f (List.mem_of_getElem? hf)).1
              unfold StOk at hsd
              unfold BdOk at hsb
              have hdn : d.n = f.n := by have := okOffs_len hde.2; have := hsd.len; have := hsb.len; omega
              have hd1 : 0 < d.n := by have := ok_head hde.1; unfold headOk at this; have := hsd.len; omega
              have hcl := fun W h1 h2 => nodes_any d.s d.A f.O d.n d.c f.c 0 0 f.bs W hde.1 hde.2 h1 h2
              unfold OwnRegs at hcl
              rw [← hnt.out] at hcl
              rw [← hdn] at y0 hsb
              clear hde hsl hnt
              replace hd := Lib.hid hd
              replace he0 := Lib.hid he0
              replace hf := Lib.hid hf
              clear hdn
              replace hsd := hsd.below hb
              replace hsb := hsb.below hb
              replace z0 := (hb.cell (p := ⟨bP, oP + r * 6, none⟩) hbP).trans z0
              replace z1 := (hb.cell (p := ⟨bP, oP + r * 6 + 1, none⟩) hbP).trans z1
              replace z2 := (hb.cell (p := ⟨bP, oP + r * 6 + 2, none⟩) hbP).trans z2
              replace z3 := (hb.cell (p := ⟨bP, oP + r * 6 + 3, none⟩) hbP).trans z3
              replace z4 := (hb.cell (p := ⟨bP, oP + r * 6 + 4, none⟩) hbP).trans z4
              replace z5 := (hb.cell (p := ⟨bP, oP + r * 6 + 5, none⟩) hbP).trans z5
              replace y0 := (hb.cell (p := ⟨g, r, none⟩) hb9g).trans y0
              replace hb9g := Nat.lt_of_lt_of_le hb9g hb.size
              have hbig1 : Hid (r + 1 ≤ maxLen) := by show r + 1 ≤ maxLen; unfold maxLen; omega
              have hbig2 : Hid ((r + 1) * 24 ≤ 140737488355328) := by show (r + 1) * 24 ≤ 140737488355328; omega
              go_wp2_with fail
              clear z0 z1 z2 z3 z4 z5
              have k8 := Blk.new wr 85 #[.int .i64 d.s.head, .slice d.A d.n d.c, .int .i64 d.s.lane.lo, .int .i64 d.s.lane.hi, .int .i64 d.s.bend, .slice e0.O e0.n e0.c]
              have hbel := (Below.refl wr.heap.size wr).alloc (Nat.le_refl _) (.cells #[.int .i64 d.s.head, .slice d.A d.n d.c, .int .i64 d.s.lane.lo, .int .i64 d.s.lane.hi, .int .i64 d.s.bend, .slice e0.O e0.n e0.c] 85)
              have hss8 : wr.heap.size ≤ (wr.alloc (.cells #[.int .i64 d.s.head, .slice d.A d.n d.c, .int .i64 d.s.lane.lo, .int .i64 d.s.lane.hi, .int .i64 d.s.bend, .slice e0.O e0.n e0.c] 85)).heap.size := hbel.size
              replace hsd := hsd.below hbel
              replace hsb := hsb.below hbel
              replace y0 := (hbel.cell (p := ⟨g, r, none⟩) hb9g).trans y0
              replace hb9g := Nat.lt_of_lt_of_le hb9g hbel.size
              replace hwh := ownsRow_below hwh hbel
              replace hgo : Hid (∀ x ∈ gs, RgOk (wr.alloc (.cells #[.int .i64 d.s.head, .slice d.A d.n d.c, .int .i64 d.s.lane.lo, .int .i64 d.s.lane.hi, .int .i64 d.s.bend, .slice e0.O e0.n e0.c] 85)) x ∧ ∀ g, u15.ownBlock = some g → OffA g x.O x.n) := by
                show ∀ _, _
                exact fun x hx => ⟨SlAt.below (hgo.out x hx).1 hbel, (hgo.out x hx).2⟩
              replace hb := hb.trans (hbel.mono hb.size)
              clear hbel
              generalize wr.alloc (.cells #[.int .i64 d.s.head, .slice d.A d.n d.c, .int .i64 d.s.lane.lo, .int .i64 d.s.lane.hi, .int .i64 d.s.bend, .slice e0.O e0.n e0.c] 85) = W at *
              generalize wr.heap.size = g8 at *
              refine wp_held_np (fun w' : World => (∀ j, w'.cell? ⟨g8, j, none⟩ = #[Value.int .i64 d.s.head, .slice d.A d.n d.c, .int .i64 d.s.lane.lo, .int .i64 d.s.lane.hi, .int .i64 d.s.bend, .slice e0.O e0.n e0.c][j]?) ∧ w'.cell? ⟨g, r, none⟩ = some (.slice f.O d.n f.c)) (by kernel_rfl) ?_
              have hSb : Hid (∀ W', Below W.heap.size W W' → (fun w' : World => (∀ j, w'.cell? ⟨g8, j, none⟩ = #[Value.int .i64 d.s.head, .slice d.A d.n d.c, .int .i64 d.s.lane.lo, .int .i64 d.s.lane.hi, .int .i64 d.s.bend, .slice e0.O e0.n e0.c][j]?) ∧ w'.cell? ⟨g, r, none⟩ = some (.slice f.O d.n f.c)) W') := by
                show ∀ _, _
                intro W' hbb
                exact ⟨(k8.below hbb).cell, (hbb.cell (p := ⟨g, r, none⟩) hb9g).trans y0⟩
              have hbw : Below W.heap.size W W.drew := (Below.refl _ _).drew
              have hS := hSb.out _ hbw
              have hu15 : ∀ q, u15.ownBlock = some q → w0.heap.size ≤ q ∧ q < W.heap.size := fun q e => hwh.lt q e
              generalize W.drew = wd at *
              refine held_take (i := 0) (v := ?_) 51 rfl rfl (by kernel_rfl) (by kernel_rfl) (by kernel_rfl) (fun _ _ _ h => h) (Or.inl ⟨by rfl, ?_⟩) hS ?_
              rotate_left 1
              · intro w' hSw
                try dsimp only at hSw
                obtain ⟨q0, q1⟩ := hSw
                go_simp
                all_goals with_reducible rfl
              try simp only [Act.put, List.setIfInBounds_toArray, List.set_cons_zero, List.set_cons_succ]
              refine held_take (i := 1) (v := ?_) 52 rfl rfl (by kernel_rfl) (by kernel_rfl) (by kernel_rfl) (fun _ _ _ h => h) (Or.inl ⟨by rfl, ?_⟩) hS ?_
              rotate_left 1
              · intro w' hSw
                try dsimp only at hSw
                obtain ⟨q0, q1⟩ := hSw
                go_simp
                all_goals with_reducible rfl
              try simp only [Act.put, List.setIfInBounds_toArray, List.set_cons_zero, List.set_cons_succ]
              refine held_take (i := 2) (v := ?_) 53 rfl rfl (by kernel_rfl) (by kernel_rfl) (by kernel_rfl) (fun _ _ _ h => h) (Or.inl ⟨by rfl, ?_⟩) hS ?_
              rotate_left 1
              · intro w' hSw
                try dsimp only at hSw
                obtain ⟨q0, q1⟩ := hSw
                go_simp
                all_goals with_reducible rfl
              try simp only [Act.put, List.setIfInBounds_toArray, List.set_cons_zero, List.set_cons_succ]
              refine held_take (i := 3) (v := ?_) 54 rfl rfl (by kernel_rfl) (by kernel_rfl) (by kernel_rfl) (fun _ _ _ h => h) (Or.inl ⟨by rfl, ?_⟩) hS ?_
              rotate_left 1
              · intro w' hSw
                try dsimp only at hSw
                obtain ⟨q0, q1⟩ := hSw
                go_simp
                all_goals with_reducible rfl
              try simp only [Act.put, List.setIfInBounds_toArray, List.set_cons_zero, List.set_cons_succ]
              refine held_take (i := 4) (v := ?_) 55 rfl rfl (by kernel_rfl) (by kernel_rfl) (by kernel_rfl) (fun _ _ _ h => h) (Or.inl ⟨by rfl, ?_⟩) hS ?_
              rotate_left 1
              · intro w' hSw
                try dsimp only at hSw
                obtain ⟨q0, q1⟩ := hSw
                go_simp
                all_goals with_reducible rfl
              try simp only [Act.put, List.setIfInBounds_toArray, List.set_cons_zero, List.set_cons_succ]
              refine held_take (i := 5) (v := ?_) 56 rfl rfl (by kernel_rfl) (by kernel_rfl) (by kernel_rfl) (fun _ _ _ h => h) (Or.inl ⟨by rfl, ?_⟩) hS ?_
              rotate_left 1
              · intro w' hSw
                try dsimp only at hSw
                obtain ⟨q0, q1⟩ := hSw
                go_simp
                all_goals with_reducible rfl
              try simp only [Act.put, List.setIfInBounds_toArray, List.set_cons_zero, List.set_cons_succ]
              refine held_one (i := 6) (by kernel_rfl) rfl rfl (fun K hK => ?_)
              go_simp
              refine (hcl _ (hsd.below hbw) (hsb.below hbw)).mono ?_
              rintro e4 W3 ⟨Q, qc, rfl, rr, hbel⟩
              clear hS hcl
              have hwdW : W.heap.size ≤ wd.heap.size := hbw.size
              replace hbw := hbw.trans (hbel.mono hbw.size)
              have hS := hSb.out _ hbw
              refine hK _ _ hS ?_
              clear hK K hbel
              try simp only [Act.put, List.setIfInBounds_toArray, List.set_cons_zero, List.set_cons_succ]
              refine held_take (i := 7) (v := ?_) 18 rfl rfl (by kernel_rfl) (by kernel_rfl) (by kernel_rfl) (fun _ _ _ h => h) (Or.inl ⟨by rfl, ?_⟩) hS ?_
              rotate_left 1
              · intro w' hSw
                try dsimp only at hSw
                obtain ⟨q0, q1⟩ := hSw
                go_simp
                all_goals with_reducible rfl
              try simp only [Act.put, List.setIfInBounds_toArray, List.set_cons_zero, List.set_cons_succ]
              refine wpAnyH_done (by kernel_rfl) (noPanic_normal ?_) _
              have hwdW3 : W.heap.size ≤ W3.heap.size := hbw.size
              clear hS hSb k8 hsd hsb y0
              replace hwh := ownsRow_below hwh hbw
              have hgW3 : Hid (∀ x ∈ gs, RgOk W3 x ∧ ∀ g, u15.ownBlock = some g → OffA g x.O x.n) := by
                show ∀ _, _
                exact fun x hx => ⟨SlAt.below (hgo.out x hx).1 hbw, (hgo.out x hx).2⟩
              clear hgo
              replace hb := hb.trans (hbw.mono hb.size)
              clear hbw
              obtain ⟨V15, c15, rfl, hwS⟩ := SlAt.of_own (enc := RgD.cells) hwh (by omega) gs rfl (fun _ => rfl) hgl.out
              obtain ⟨w3, hw3⟩ : ∃ x, x = W3 := ⟨_, rfl⟩
              rw [← hw3] at hwh hwS rr hgW3 hb hwdW3
              rw [← hw3]
              clear hw3
              go_wp2_with fail
              go_loopw [60] (fun ki wr => ∃ k : Nat, ki = .int .i64 k ∧ k ≤ r ∧ (∀ k', k' < k → pairH ds cur v r k' = false) ∧ Below w3.heap.size w3 wr) (fun ki wr => r - (intOf ki).toNat)
              case atStart => exact ⟨0, rfl, Nat.zero_le _, (fun a' h => absurd h (Nat.not_lt_zero _)), Below.refl _ _⟩
              case round =>
                obtain ⟨k, rfl, hk, hpk, hb2⟩ := hrel
                replace hpk := Lib.hid hpk
                by_cases hka : k < r
                · have hk0 : (0 : Int) ≤ (k : Int) := by omega
                  have hk1 : (k : Int) < (r : Int) := by omega
                  obtain ⟨x, hx⟩ := some_of_lt hgl.out hka
                  obtain ⟨hx1, hx2, hx3⟩ := hgn.out k x hx
                  have hxo : SlAt wr 0 8 Reg.cells x.O x.n x.c x.rs := SlAt.below (hgW3.out x (List.mem_of_getElem? hx)).1 hb2
                  have hro := (rr.mono (Nat.zero_le _)).below hb2
                  have hap := fun W h1 h2 => approach_any x.rs (nAt ds cur r) x.O Q x.n x.c d.n qc W hx3 hgd.out hx2 hd1 h1 h2
                  rw [hx1] at hap hxo
                  have hph : Hid (pairH ds cur v r k = decide ((appS (nAt ds cur k) (nAt ds cur r)).lo < v * v)) := by show _ = _; rw [pair_comm]; rfl
                  obtain ⟨b6, o6, hA6, -, hb6, x0⟩ := hwS.rgd hx
                  subst hA6
                  replace x0 := (hb2.cell (p := ⟨b6, o6 + k, none⟩) hb6).trans x0
                  generalize appS (nAt ds cur k) (nAt ds cur r) = V at *
                  replace hx := Lib.hid hx
                  replace hx1 := Lib.hid hx1
                  go_wp2_with fail
                  refine (hap _ hxo hro).mono ?_
                  rintro e W5 ⟨rfl, hbel⟩
                  clear hap hxo hro x0
                  have hb3 := hb2.trans (hbel.mono hb2.size)
                  clear hbel
                  by_cases hV : V.lo < v * v
                  · have hpt : Hid (pairH ds cur v r k = true) := by show _ = _; rw [hph.out]; exact decide_eq_true hV
                    have hhit : Hid (tanS ds bss ws v = q) := by
                      show _ = _
                      unfold tanS
                      refine fstN_first hno.out ?_ _ (by have := hwl.out; omega)
                      show hitJ ds v (stAt ds bss ws q) = true
                      rw [hcur]
                      exact hit_true (by have := hdl.out; omega) hka hpt.out
                    go_wp2
                    go_ret2
                    exact ⟨by rw [hv.out, hhit.out]; rfl, b.trans ((hbC.trans ((hb.trans (hb3.mono hb.size)).mono hbC.size)).mono b.size)⟩
                  · have hpt : Hid (pairH ds cur v r k = false) := by show _ = _; rw [hph.out]; exact decide_eq_false hV
                    go_wp2_with fail
                    go_roundw
                    case rel =>
                      refine ⟨k + 1, by go_num, by omega, ?_, hb3⟩
                      intro k' hk'
                      by_cases e : k' < k
                      · exact hpk.out k' e
                      · obtain rfl : k' = k := by omega
                        exact hpt.out
                    case measure => simp [intOf]; omega
                · obtain rfl : k = r := by omega
                  replace hwh := ownsRow_below hwh hb2
                  have hrr := rr.below hb2
                  have hsz2 := hb2.size
                  have hgo : Hid (∀ x ∈ gs, RgOk wr x ∧ ∀ g, (Value.slice V15 k c15).ownBlock = some g → OffA g x.O x.n) := by
                    show ∀ _, _
                    exact fun x hx => ⟨SlAt.below (hgW3.out x hx).1 hb2, (hgW3.out x hx).2⟩
                  have hb3 := hb.trans (hb2.mono hb.size)
                  clear hgW3 hb hb2 hwS rr
                  have hownf := hwh.alloc (.cells #[Value.slice Q d.n qc] 61)
                  have hbf := hb3.alloc hb3.size (.cells #[Value.slice Q d.n qc] 61)
                  have hnews := World.news_of_block (cs := #[Value.slice Q d.n qc]) (World.alloc_heap_new wr (.cells #[Value.slice Q d.n qc] 61))
                  go_wp2_with (at_builtin; refine wpList_append_lies _ rfl (.tmp 74) (.tmp 76) 113 rfl w0.heap.size 61 is (.slice none 0 0) 1 24 Tryz.underlying113 ish is0 is1 is2 rfl (by decide) (.slice V15 k c15) k (gs.flatMap RgD.cells) rfl hownf ⟨wr.heap.size, 0, none⟩ 1 1 [Value.slice Q d.n qc] rfl rfl hnews (by simp [Value.oneCell']) (by decide) hbig1.out hbig2.out hbf.size (wr.heap.size + 1) (by simp) ?_; intro g7 cap w7 hown7 hgrow hlies hlt7)
                  have hbg : Below w0.heap.size _ w7 := ⟨hgrow.os, hgrow.tape, hgrow.output, hgrow.size, fun b hb2 => hgrow.block b (Nat.lt_of_lt_of_le hb2 hbf.size) (fun e => by have := (hownf.lt _ e.symm).1; omega)⟩
                  have hbh := hbf.trans hbg
                  go_wp2_with fail
                  go_roundw
                  case rel =>
                    have hoff7 : ∀ (x : RgD) (B : Nat), SlAt wr B 8 Reg.cells x.O x.n x.c x.rs → (∀ g, (Value.slice V15 k c15).ownBlock = some g → OffA g x.O x.n) → RgOk w7 x ∧ OffA g7 x.O x.n := by
                      intro x B hx hoff
                      refine ⟨((hx.alloc _).grownOff hgrow hoff).mono (Nat.zero_le _), ?_⟩
                      rcases hlies with h | h
                      · exact hoff g7 h
                      · subst h; exact OffA.below hx (by omega)
                    refine ⟨k + 1, gs ++ [⟨nAt ds cur k, Q, d.n, qc⟩], by go_num, by omega, ?_, by rw [List.length_append, hgl.out]; rfl, ?_, ?_, ?_, hbh⟩
                    · rw [List.flatMap_append]; exact hown7
                    · intro i x hx
                      by_cases hi : i < k
                      · rw [List.getElem?_append_left (by rw [hgl.out]; exact hi)] at hx
                        exact hgn.out i x hx
                      · rw [List.getElem?_append_right (by rw [hgl.out]; omega), hgl.out] at hx
                        have hi0 : i - k = 0 := by have := (List.getElem?_eq_some_iff.1 hx).1; simp at this; omega
                        rw [hi0] at hx
                        simp only [List.getElem?_cons_zero, Option.some.injEq] at hx
                        subst hx
                        obtain rfl : i = k := by omega
                        exact ⟨rfl, hd1, hgd.out⟩
                    · intro x hx
                      rcases List.mem_append.1 hx with hx | hx
                      · obtain ⟨h1, h2⟩ := hgo.out x hx
                        obtain ⟨h3, h4⟩ := hoff7 x 0 h1 h2
                        exact ⟨h3, fun g2 e2 => by simp only [Value.ownBlock, Option.some.injEq] at e2; subst e2; exact h4⟩
                      · obtain rfl := List.mem_singleton.1 hx
                        obtain ⟨h3, h4⟩ := hoff7 ⟨nAt ds cur k, Q, d.n, qc⟩ _ hrr (fun g2 e2 => OffA.above hrr (by have := hu15 g2 e2; omega))
                        exact ⟨h3, fun g2 e2 => by simp only [Value.ownBlock, Option.some.injEq] at e2; subst e2; exact h4⟩
                    · intro a' ha'
                      by_cases e : a' < k
                      · exact hpr.out a' e
                      · obtain rfl : a' = k := by omega
                        exact hpk.out
                  case measure => simp [intOf]; omega
            · obtain rfl : np = r := by omega
              have hnh : Hid (hitJ ds v (stAt ds bss ws q) = false) := by
                show _ = _
                rw [hcur]
                exact hit_false (fun a' h => hpr.out a' (by have := hdl.out; omega))
              have hno2 := Lib.hid (noneB_succ hno.out hnh.out)
              have hfsr : ∀ f ∈ fs, BdOk wr f ∧ OffA g f.O f.n := fun f hf => ⟨SlAt.below (hfs.out f hf).1 hb, (hfs.out f hf).2⟩
              replace hown := ownsRow_below hown hb
              replace hbC := hbC.trans (hb.mono hbC.size)
              by_cases hqd : q = nd
              · have hnone : Hid (tanS ds bss ws v = -1) := by
                  show _ = _
                  unfold tanS
                  rw [fstN_none]
                  intro t ht
                  exact hno2.out t (by have := hwl.out; omega)
                subst hqd
                go_wp2
                go_ret2
                exact ⟨by rw [hv.out, hnone.out]; rfl, b.trans (hbC.mono b.size)⟩
              · have hqe : ((q : Int) == (nd : Int)) = false := by rw [beq_eq_false_iff_ne]; omega
                have hq1 : (q : Int) < (nd : Int) := by omega
                have hq0 : (0 : Int) ≤ (q : Int) := by omega
                obtain ⟨x, hx⟩ := some_of_lt hwl.out (show q < nd by omega)
                have hxo := hwok.out x (List.mem_of_getElem? hx)
                have hnxt := Lib.hid (stAt_succ ds bss hx)
                have hLr := Lib.hid (hL0.below b)
                obtain ⟨bD, oD, hDA, -, hbD, y0, y1, -, -⟩ := hD.wat hx
                subst hDA
                have hx := Lib.hid hx
                rw [hcur] at hnxt
                clear hb hwh hgo hgn hgl
                have hfsr := Lib.hid hfsr
                go_wp2_with fail
                go_loopw [85] (fun ki wr => ∃ k : Nat, ∃ hs : List BdD, ki = .int .i64 k ∧ k ≤ np ∧ wr.ownsRow W1.heap.size 36 1 (.slice (some ⟨g, 0, none⟩) np pc) np (hs.flatMap BdD.cells) ∧ hs.length = np ∧ (∀ i, k ≤ i → hs[i]? = fs[i]?) ∧ hs.map (·.bs) = (stepB ds cur x.acr).take k ++ cur.drop k ∧ (∀ f ∈ hs, BdOk wr f ∧ OffA g f.O f.n) ∧ Below W1.heap.size W1 wr) (fun ki wr => np - (intOf ki).toNat)
                case atStart => exact ⟨0, fs, rfl, Nat.zero_le _, hown, hfl.out, (fun i _ => rfl), hmap.out, hfsr.out, hbC⟩
                case round =>
                  clear hown hfsr hbC
                  obtain ⟨k, hs, rfl, hk, hown, hhl, hhs, hhm, hho, hbC⟩ := hrel
                  replace hhl := Lib.hid hhl
                  replace hhs := Lib.hid hhs
                  replace hhm := Lib.hid hhm
                  replace hho := Lib.hid hho
                  by_cases hlt : k < np
                  · skip
                    have hk0 : (0 : Int) ≤ (k : Int) := by omega
                    have hk1 : (k : Int) < (np : Int) := by omega
                    obtain ⟨d, hd⟩ := some_of_lt hdl.out hlt
                    obtain ⟨e0, he0⟩ := some_of_lt hel.out hlt
                    obtain ⟨f, hf⟩ := some_of_lt hfl.out hlt
                    have hde := okT_ok hok.out hmap.out hd hf
                    have hhf : hs[k]? = some f := by rw [hhs.out k (Nat.le_refl _), hf]
                    have hzk : (stepB ds cur x.acr)[k]? = some (encL d.s f.bs x.acr) := by
                      unfold stepB
                      rw [List.getElem?_zipWith, hd, ← hmap.out, List.getElem?_map, hf]; rfl
                    have hzl : (stepB ds cur x.acr).length = cur.length := by unfold stepB; rw [List.length_zipWith, hok.out.1]; omega
                    have hmx := Lib.hid (mix_set (ys := cur) hzl (List.getElem?_eq_some_iff.1 hzk).1 hzk)
                    obtain ⟨bP, oP, hA, -, hbP, z0, z1, z2, z3, z4, z5⟩ := hP.tld (zipT_at hd he0)
                    subst hA
                    have hsl := SlAt.own (enc := BdD.cells) hown (by omega) hs rfl (fun _ => rfl) hhl.out
                    obtain ⟨b9, o9, hA9, -, hb9g, x0⟩ := hsl.bdd hhf
                    simp only [Option.some.injEq, Addr.mk.injEq] at hA9
                    obtain ⟨rfl, rfl, -⟩ := hA9
                    rw [Nat.zero_add] at x0
                    have hsd : StOk wr d := SlAt.below ((hL0.below b).2 d (List.mem_of_getElem? hd)) hbC
                    have hsb : BdOk wr f := (hho.out f (List.mem_of_getElem? hhf)).1
                    unfold StOk at hsd
                    unfold BdOk at hsb
                    have hdn : d.n = f.n := by have := okOffs_len hde.2; have := hsd.len; have := hsb.len; omega
                    have hcl := fun W h1 h2 => enclosed_any d.s d.A f.O d.n d.c f.n f.c 0 0 f.bs x.acr W hde.1 hde.2 hxo h1 h2
                    unfold OwnBnds at hcl
                    rw [← hdn] at x0 hsb hcl
                    clear hde hsl hzl hzk
                    replace hd := Lib.hid hd
                    replace he0 := Lib.hid he0
                    replace hf := Lib.hid hf
                    replace hhf := Lib.hid hhf
                    clear hdn
                    replace z0 := (hbC.cell (p := ⟨bP, oP + k * 6, none⟩) hbP).trans z0
                    replace z1 := (hbC.cell (p := ⟨bP, oP + k * 6 + 1, none⟩) hbP).trans z1
                    replace z2 := (hbC.cell (p := ⟨bP, oP + k * 6 + 2, none⟩) hbP).trans z2
                    replace z3 := (hbC.cell (p := ⟨bP, oP + k * 6 + 3, none⟩) hbP).trans z3
                    replace z4 := (hbC.cell (p := ⟨bP, oP + k * 6 + 4, none⟩) hbP).trans z4
                    replace z5 := (hbC.cell (p := ⟨bP, oP + k * 6 + 5, none⟩) hbP).trans z5
                    have v0 := (hbC.cell (p := ⟨bD, oD + q * 4, none⟩) hbD).trans y0
                    have v1 := (hbC.cell (p := ⟨bD, oD + q * 4 + 1, none⟩) hbD).trans y1
                    have hbDr := Nat.lt_of_lt_of_le hbD hbC.size
                    go_wp2_with fail
                    clear z0 z1 z2 z3 z4 z5
                    have k8 := Blk.new wr 85 #[.int .i64 d.s.head, .slice d.A d.n d.c, .int .i64 d.s.lane.lo, .int .i64 d.s.lane.hi, .int .i64 d.s.bend, .slice e0.O e0.n e0.c]
                    have hbel := (Below.refl wr.heap.size wr).alloc (Nat.le_refl _) (.cells #[.int .i64 d.s.head, .slice d.A d.n d.c, .int .i64 d.s.lane.lo, .int .i64 d.s.lane.hi, .int .i64 d.s.bend, .slice e0.O e0.n e0.c] 85)
                    replace hsd := hsd.below hbel
                    replace hsb := hsb.below hbel
                    replace x0 := (hbel.cell (p := ⟨g, k, none⟩) hb9g).trans x0
                    replace v0 := (hbel.cell (p := ⟨bD, oD + q * 4, none⟩) hbDr).trans v0
                    replace v1 := (hbel.cell (p := ⟨bD, oD + q * 4 + 1, none⟩) hbDr).trans v1
                    replace hb9g := Nat.lt_of_lt_of_le hb9g hbel.size
                    replace hbDr := Nat.lt_of_lt_of_le hbDr hbel.size
                    replace hown := ownsRow_below hown hbel
                    replace hho : Hid (∀ x ∈ hs, BdOk (wr.alloc (.cells #[.int .i64 d.s.head, .slice d.A d.n d.c, .int .i64 d.s.lane.lo, .int .i64 d.s.lane.hi, .int .i64 d.s.bend, .slice e0.O e0.n e0.c] 85)) x ∧ OffA g x.O x.n) := by
                      show ∀ _, _
                      exact fun x hx => ⟨SlAt.below (hho.out x hx).1 hbel, (hho.out x hx).2⟩
                    replace hbC := hbC.trans (hbel.mono hbC.size)
                    clear hbel
                    generalize wr.alloc (.cells #[.int .i64 d.s.head, .slice d.A d.n d.c, .int .i64 d.s.lane.lo, .int .i64 d.s.lane.hi, .int .i64 d.s.bend, .slice e0.O e0.n e0.c] 85) = W at *
                    generalize wr.heap.size = g8 at *
                    refine wp_till_np (n0 := 15) (S := (fun w' : World => (∀ j, w'.cell? ⟨g8, j, none⟩ = #[Value.int .i64 d.s.head, .slice d.A d.n d.c, .int .i64 d.s.lane.lo, .int .i64 d.s.lane.hi, .int .i64 d.s.bend, .slice e0.O e0.n e0.c][j]?) ∧ w'.cell? ⟨g, k, none⟩ = some (.slice f.O d.n f.c) ∧ w'.cell? ⟨bD, oD + q * 4, none⟩ = some (.int .i64 x.acr.lo) ∧ w'.cell? ⟨bD, oD + q * 4 + 1, none⟩ = some (.int .i64 x.acr.hi))) (by kernel_rfl) ?_
                    have hSb : Hid (∀ W', Below W.heap.size W W' → (fun w' : World => (∀ j, w'.cell? ⟨g8, j, none⟩ = #[Value.int .i64 d.s.head, .slice d.A d.n d.c, .int .i64 d.s.lane.lo, .int .i64 d.s.lane.hi, .int .i64 d.s.bend, .slice e0.O e0.n e0.c][j]?) ∧ w'.cell? ⟨g, k, none⟩ = some (.slice f.O d.n f.c) ∧ w'.cell? ⟨bD, oD + q * 4, none⟩ = some (.int .i64 x.acr.lo) ∧ w'.cell? ⟨bD, oD + q * 4 + 1, none⟩ = some (.int .i64 x.acr.hi)) W') := by
                      show ∀ _, _
                      intro W' hbb
                      exact ⟨(k8.below hbb).cell, (hbb.cell (p := ⟨g, k, none⟩) hb9g).trans x0, (hbb.cell (p := ⟨bD, oD + q * 4, none⟩) hbDr).trans v0, (hbb.cell (p := ⟨bD, oD + q * 4 + 1, none⟩) hbDr).trans v1⟩
                    have hbw : Below W.heap.size W W.drew := (Below.refl _ _).drew
                    have hS := hSb.out _ hbw
                    generalize W.drew = wd at *
                    refine till_taked (i := 0) (v := ?_) 90 rfl rfl (by kernel_rfl) (by kernel_rfl) (by kernel_rfl) (by kernel_rfl) (by kernel_rfl) (by kernel_rfl) (fun _ _ _ h => h) (Or.inl ⟨by rfl, ?_⟩) hS ?_
                    rotate_left 1
                    · intro w' hSw
                      try dsimp only at hSw
                      obtain ⟨q0, q1, q2, q3⟩ := hSw
                      go_simp
                      all_goals with_reducible rfl
                    try simp only [Act.put, List.setIfInBounds_toArray, List.set_cons_zero, List.set_cons_succ]
                    refine till_taked (i := 1) (v := ?_) 91 rfl rfl (by kernel_rfl) (by kernel_rfl) (by kernel_rfl) (by kernel_rfl) (by kernel_rfl) (by kernel_rfl) (fun _ _ _ h => h) (Or.inl ⟨by rfl, ?_⟩) hS ?_
                    rotate_left 1
                    · intro w' hSw
                      try dsimp only at hSw
                      obtain ⟨q0, q1, q2, q3⟩ := hSw
                      go_simp
                      all_goals with_reducible rfl
                    try simp only [Act.put, List.setIfInBounds_toArray, List.set_cons_zero, List.set_cons_succ]
                    refine till_taked (i := 2) (v := ?_) 92 rfl rfl (by kernel_rfl) (by kernel_rfl) (by kernel_rfl) (by kernel_rfl) (by kernel_rfl) (by kernel_rfl) (fun _ _ _ h => h) (Or.inl ⟨by rfl, ?_⟩) hS ?_
                    rotate_left 1
                    · intro w' hSw
                      try dsimp only at hSw
                      obtain ⟨q0, q1, q2, q3⟩ := hSw
                      go_simp
                      all_goals with_reducible rfl
                    try simp only [Act.put, List.setIfInBounds_toArray, List.set_cons_zero, List.set_cons_succ]
                    refine till_taked (i := 3) (v := ?_) 93 rfl rfl (by kernel_rfl) (by kernel_rfl) (by kernel_rfl) (by kernel_rfl) (by kernel_rfl) (by kernel_rfl) (fun _ _ _ h => h) (Or.inl ⟨by rfl, ?_⟩) hS ?_
                    rotate_left 1
                    · intro w' hSw
                      try dsimp only at hSw
                      obtain ⟨q0, q1, q2, q3⟩ := hSw
                      go_simp
                      all_goals with_reducible rfl
                    try simp only [Act.put, List.setIfInBounds_toArray, List.set_cons_zero, List.set_cons_succ]
                    refine till_taked (i := 4) (v := ?_) 94 rfl rfl (by kernel_rfl) (by kernel_rfl) (by kernel_rfl) (by kernel_rfl) (by kernel_rfl) (by kernel_rfl) (fun _ _ _ h => h) (Or.inl ⟨by rfl, ?_⟩) hS ?_
                    rotate_left 1
                    · intro w' hSw
                      try dsimp only at hSw
                      obtain ⟨q0, q1, q2, q3⟩ := hSw
                      go_simp
                      all_goals with_reducible rfl
                    try simp only [Act.put, List.setIfInBounds_toArray, List.set_cons_zero, List.set_cons_succ]
                    refine till_taked (i := 5) (v := ?_) 95 rfl rfl (by kernel_rfl) (by kernel_rfl) (by kernel_rfl) (by kernel_rfl) (by kernel_rfl) (by kernel_rfl) (fun _ _ _ h => h) (Or.inl ⟨by rfl, ?_⟩) hS ?_
                    rotate_left 1
                    · intro w' hSw
                      try dsimp only at hSw
                      obtain ⟨q0, q1, q2, q3⟩ := hSw
                      go_simp
                      all_goals with_reducible rfl
                    try simp only [Act.put, List.setIfInBounds_toArray, List.set_cons_zero, List.set_cons_succ]
                    refine till_taked (i := 6) (v := ?_) 96 rfl rfl (by kernel_rfl) (by kernel_rfl) (by kernel_rfl) (by kernel_rfl) (by kernel_rfl) (by kernel_rfl) (fun _ _ _ h => h) (Or.inl ⟨by rfl, ?_⟩) hS ?_
                    rotate_left 1
                    · intro w' hSw
                      try dsimp only at hSw
                      obtain ⟨q0, q1, q2, q3⟩ := hSw
                      go_simp
                      all_goals with_reducible rfl
                    try simp only [Act.put, List.setIfInBounds_toArray, List.set_cons_zero, List.set_cons_succ]
                    refine till_taked (i := 7) (v := ?_) 97 rfl rfl (by kernel_rfl) (by kernel_rfl) (by kernel_rfl) (by kernel_rfl) (by kernel_rfl) (by kernel_rfl) (fun _ _ _ h => h) (Or.inl ⟨by rfl, ?_⟩) hS ?_
                    rotate_left 1
                    · intro w' hSw
                      try dsimp only at hSw
                      obtain ⟨q0, q1, q2, q3⟩ := hSw
                      go_simp
                      all_goals with_reducible rfl
                    try simp only [Act.put, List.setIfInBounds_toArray, List.set_cons_zero, List.set_cons_succ]
                    refine till_taked (i := 8) (v := ?_) 98 rfl rfl (by kernel_rfl) (by kernel_rfl) (by kernel_rfl) (by kernel_rfl) (by kernel_rfl) (by kernel_rfl) (fun _ _ _ h => h) (Or.inl ⟨by rfl, ?_⟩) hS ?_
                    rotate_left 1
                    · intro w' hSw
                      try dsimp only at hSw
                      obtain ⟨q0, q1, q2, q3⟩ := hSw
                      go_simp
                      all_goals with_reducible rfl
                    try simp only [Act.put, List.setIfInBounds_toArray, List.set_cons_zero, List.set_cons_succ]
                    refine till_taked (i := 9) (v := ?_) 99 rfl rfl (by kernel_rfl) (by kernel_rfl) (by kernel_rfl) (by kernel_rfl) (by kernel_rfl) (by kernel_rfl) (fun _ _ _ h => h) (Or.inl ⟨by rfl, ?_⟩) hS ?_
                    rotate_left 1
                    · intro w' hSw
                      try dsimp only at hSw
                      obtain ⟨q0, q1, q2, q3⟩ := hSw
                      go_simp
                      all_goals with_reducible rfl
                    try simp only [Act.put, List.setIfInBounds_toArray, List.set_cons_zero, List.set_cons_succ]
                    refine till_taked (i := 10) (v := ?_) 100 rfl rfl (by kernel_rfl) (by kernel_rfl) (by kernel_rfl) (by kernel_rfl) (by kernel_rfl) (by kernel_rfl) (fun _ _ _ h => h) (Or.inl ⟨by rfl, ?_⟩) hS ?_
                    rotate_left 1
                    · intro w' hSw
                      try dsimp only at hSw
                      obtain ⟨q0, q1, q2, q3⟩ := hSw
                      go_simp
                      all_goals with_reducible rfl
                    try simp only [Act.put, List.setIfInBounds_toArray, List.set_cons_zero, List.set_cons_succ]
                    refine till_taked (i := 11) (v := ?_) 101 rfl rfl (by kernel_rfl) (by kernel_rfl) (by kernel_rfl) (by kernel_rfl) (by kernel_rfl) (by kernel_rfl) (fun _ _ _ h => h) (Or.inl ⟨by rfl, ?_⟩) hS ?_
                    rotate_left 1
                    · intro w' hSw
                      try dsimp only at hSw
                      obtain ⟨q0, q1, q2, q3⟩ := hSw
                      go_simp
                      all_goals with_reducible rfl
                    try simp only [Act.put, List.setIfInBounds_toArray, List.set_cons_zero, List.set_cons_succ]
                    refine till_taked (i := 12) (v := ?_) 102 rfl rfl (by kernel_rfl) (by kernel_rfl) (by kernel_rfl) (by kernel_rfl) (by kernel_rfl) (by kernel_rfl) (fun _ _ _ h => h) (Or.inl ⟨by rfl, ?_⟩) hS ?_
                    rotate_left 1
                    · intro w' hSw
                      try dsimp only at hSw
                      obtain ⟨q0, q1, q2, q3⟩ := hSw
                      go_simp
                      all_goals with_reducible rfl
                    try simp only [Act.put, List.setIfInBounds_toArray, List.set_cons_zero, List.set_cons_succ]
                    refine till_one (i := 13) (by kernel_rfl) rfl rfl (fun K hK => ?_)
                    go_simp
                    refine (hcl _ (hsd.below hbw) (hsb.below hbw)).mono ?_
                    rintro e4 W3 ⟨Q, qc, rfl, -, rr, hbel⟩
                    clear hS hcl
                    have hwdW : W.heap.size ≤ wd.heap.size := hbw.size
                    replace hbw := hbw.trans (hbel.mono hbw.size)
                    have hS := hSb.out _ hbw
                    refine hK _ _ (fun _ => hS) ?_
                    clear hK K hbel
                    try simp only [Act.put, List.setIfInBounds_toArray, List.set_cons_zero, List.set_cons_succ]
                    refine till_taked (i := 14) (v := ?_) 104 rfl rfl (by kernel_rfl) (by kernel_rfl) (by kernel_rfl) (by kernel_rfl) (by kernel_rfl) (by kernel_rfl) (fun _ _ _ h => h) (Or.inl ⟨by rfl, ?_⟩) hS ?_
                    rotate_left 1
                    · intro w' hSw
                      try dsimp only at hSw
                      obtain ⟨q0, q1, q2, q3⟩ := hSw
                      go_simp
                      all_goals with_reducible rfl
                    try simp only [Act.put, List.setIfInBounds_toArray, List.set_cons_zero, List.set_cons_succ]
                    replace hown := ownsRow_below hown hbw
                    have fr9 := hown.frozenAt k
                    have hx9 := hS.2.1
                    have hoQ : OffA g Q d.n := OffA.above rr (by omega)
                    have hown3 := (hown.stored k (.slice Q d.n qc)).1
                    have hfs9 := flat_set (enc := BdD.cells) (s := 1) (fun _ => rfl) (x := f) (y := ⟨encL d.s f.bs x.acr, Q, d.n, qc⟩) (j := 0) (u := .slice Q d.n qc) (by omega) rfl hs k hhf.out
                    simp only [Nat.mul_one, Nat.add_zero] at hfs9
                    rw [hfs9] at hown3
                    have hbz := (hbC.trans (hbw.mono hbC.size)).setCell (p := ⟨g, k, none⟩) hgW (.slice Q d.n qc)
                    have hho3 : Hid (∀ y ∈ hs.set k ⟨encL d.s f.bs x.acr, Q, d.n, qc⟩, BdOk (W3.setCell ⟨g, k, none⟩ (.slice Q d.n qc)) y ∧ OffA g y.O y.n) := by
                      show ∀ _, _
                      intro y hy
                      rcases List.mem_or_eq_of_mem_set hy with hy | rfl
                      · exact ⟨SlAt.offSet (SlAt.below (hho.out y hy).1 hbw) (hho.out y hy).2 _, (hho.out y hy).2⟩
                      · exact ⟨SlAt.offSet (rr.mono (Nat.zero_le _)) hoQ _, hoQ⟩
                    obtain ⟨wz, hwz⟩ : ∃ y, y = W3.setCell ⟨g, k, none⟩ (.slice Q d.n qc) := ⟨_, rfl⟩
                    rw [← hwz] at hown3 hbz hho3
                    clear hfs9
                    refine till_one (i := 15) (by kernel_rfl) rfl rfl (fun K hK => ?_)
                    go_simp
                    rw [← hwz]
                    clear hwz hS fr9 hx9 hSb
                    refine hK _ _ (fun h => nomatch (show true = false from h)) ?_
                    clear hK K
                    refine till_done (by kernel_rfl) (noPanic_normal ?_) _
                    try simp only [Act.put, List.setIfInBounds_toArray, List.set_cons_zero, List.set_cons_succ]
                    go_wp2_with fail
                    go_roundw
                    case rel =>
                      refine ⟨k + 1, hs.set k ⟨encL d.s f.bs x.acr, Q, d.n, qc⟩, by go_num, by omega, hown3, by rw [List.length_set]; exact hhl.out, ?_, ?_, hho3.out, hbz⟩
                      · intro i hi
                        rw [List.getElem?_set_ne (by omega)]
                        exact hhs.out i (by omega)
                      · rw [List.map_set, hhm.out]
                        exact hmx.out
                    case measure => simp [intOf]; omega
                  · obtain rfl : np = k := by omega
                    have hzl : (stepB ds cur x.acr).length = np := by unfold stepB; rw [List.length_zipWith, hok.out.1, hdl.out]; omega
                    have hcl : cur.length = np := by rw [hok.out.1, hdl.out]
                    have hfin : Hid (hs.map (·.bs) = stAt ds bss ws (q + 1)) := by
                      show _ = _
                      rw [hhm.out, hnxt.out, List.take_of_length_le (by omega), List.drop_of_length_le (by omega), List.append_nil]
                    clear hzl hcl
                    go_wp2_with fail
                    go_roundw
                    case rel =>
                      exact ⟨q + 1, hs, by go_num, by omega, hown, hhl.out, hho.out, hfin.out, hno2.out, hbC⟩
                    case measure => simp [intOf]; omega
      · have hv : tangR ds es ws v = (0, 7) := by unfold tangR; rw [hs, if_pos rfl, if_pos hc0, if_neg hvr]
        rw [hv]
        simp only [decide_eq_false hvr] at hbt
        simp only [hc0] at hwt
        clear hv hs hvr
        go_enter Tryz.func19, Tryz.ntmps19
        go_wp2_with fail
        refine (hsp _ hL hM).mono ?_
        rintro e W ⟨P, np, cp, rfl, hP, hbel⟩
        clear hsp
        replace hM := hM.below hbel
        replace hD := hD.below hbel
        replace b := b.trans (hbel.mono b.size)
        clear hbel
        clear hP
        go_wp2_with fail
        refine (hwt _ hD).mono ?_
        rintro e W ⟨rfl, hbel⟩
        replace hM := hM.below hbel
        replace hD := hD.below hbel
        replace b := b.trans (hbel.mono b.size)
        clear hbel
        go_wp2_with fail
        refine (hbt _).mono ?_
        rintro e w' ⟨rfl, rfl⟩
        go_wp2
        go_ret2
        exact ⟨rfl, b⟩
    · have hv : tangR ds es ws v = (0, chkWats ws) := by unfold tangR; rw [hs, if_pos rfl, if_neg hc0]
      rw [hv]
      obtain ⟨er, her⟩ : ∃ er, chkWats ws = er := ⟨_, rfl⟩
      simp only [her] at *
      have hne : (er != 0) = true := by rw [bne_iff_ne]; exact hc0
      clear hv hs hbt her
      replace hc0 := Lib.hid hc0
      go_enter Tryz.func19, Tryz.ntmps19
      go_wp2_with fail
      refine (hsp _ hL hM).mono ?_
      rintro e W ⟨P, np, cp, rfl, hP, hbel⟩
      clear hsp
      replace hM := hM.below hbel
      replace hD := hD.below hbel
      replace b := b.trans (hbel.mono b.size)
      clear hbel
      clear hP
      go_wp2_with fail
      refine (hwt _ hD).mono ?_
      rintro e W ⟨rfl, hbel⟩
      replace hM := hM.below hbel
      replace hD := hD.below hbel
      replace b := b.trans (hbel.mono b.size)
      clear hbel
      go_wp2
      go_ret2
      exact ⟨rfl, b⟩
end Go.Proofs.YthjdjpcomocffaaGreat
