/-
  Shots, walks: Prove: the claims along the edges by which the fewest came.
  Shots, walks: Fewest and Repeats of the specification.
-/
import Derived.Test.YtfengddpfeneiaaS19
import Derived.Test.YtfengddpfeneiaaQ19
import Derived.Deep.LoopGhost
import Derived.Test.YtfengddpfeneiaaS36
import Derived.Test.YtfengddpfeneiaaS29
import Derived.Test.YtfengddpfeneiaaI2
import Derived.Deep.QuietTactic
import Derived.BigQuiet
namespace Go.Proofs.Ytfengddpfeneiaa
open Go.RowKit Go.Shelf
set_option linter.unusedSimpArgs false
set_option linter.unusedVariables false

theorem Try.infoClm : (Try.prog.info? 99).map (fun i => (i.zero, i.size, i.bytes)) = some (some (.agg #[.int .i64 0, .int .i64 0]), 2, 16) := by kernel_rfl
def PrvOk (r : Rul) (l : List Int) (p : List Clm) : Prop := (errJ r l 1 = 0 → IsProof r l p) ∧ (errJ r l 1 ≠ 0 → p = [])
def RetPrv (r : Rul) (l : List Int) (w : World) (e : Ending) (w' : World) : Prop :=
  ∃ P np cp p, e = .returned (.tuple #[.slice P np cp, .int .i64 (errJ r l 1)]) ∧ SlAt w' w.heap.size 2 Clm.cells P np cp p ∧ PrvOk r l p ∧ Below w.heap.size w w'
theorem pathTo_len {r : Rul} (hr : okRul r = true) {l : List Int} {d : List Edg} {rk : Nat → Nat} (hc : ChainOk r l d) (hk : RankOk l d rk) : (pathTo d (rk (cnt l) + 1) (cnt l)).length ≤ l.length + 1 := IsProof.len hr ⟨d, rk, hc, hk, rfl⟩
set_option maxRecDepth 100000 in
set_option maxHeartbeats 4000000 in
theorem Prove_any (r : Rul) (l : List Int) (A : Option Addr) (n c B : Nat) (w : World) (hs : SlAt w B 1 ivs A n c l) :
    Calls Try.prog 73 #[.agg #[.int .i64 r.row, .int .i64 r.win, .int .i64 r.many, .int .i64 r.total], .slice A n c] w (RetPrv r l w) := by
  have h1 := fun W h => ruled_any r l A n c B W h
  obtain ⟨w1, hw1⟩ : ∃ w1, w1 = w.alloc (.cells #[.int .i64 r.row, .int .i64 r.win, .int .i64 r.many, .int .i64 r.total] 57) := ⟨_, rfl⟩
  have k3 : Blk w1 w.heap.size 57 #[.int .i64 r.row, .int .i64 r.win, .int .i64 r.many, .int .i64 r.total] := by rw [hw1]; exact Blk.new _ _ _
  have b : Below w.heap.size w w1 := by rw [hw1]; exact (Below.refl _ _).alloc (Nat.le_refl _) _
  have hs1 : SlAt w1 B 1 ivs A n c l := by rw [hw1]; exact hs.alloc _
  have hl := Lib.hid hs.len
  clear hs
  by_cases her : errJ r l 1 = 0
  · have hr : okRul r = true := by unfold errJ at her; split at her; assumption; cases her
    have hres : okRes l 1 = true := by
      unfold errJ at her; rw [if_pos hr] at her; split at her; assumption; cases her
    have hisr := Lib.hid (isRes_of hres)
    have hn256 : n ≤ 256 := by have := hisr.out.2; rw [hl.out] at this; exact this
    have h2 := fun W h => fewest_any r hr l A n c B W hn256 h
    have hpok : Hid (∀ p, IsProof r l p → PrvOk r l p) := by show ∀ _, _; exact fun p hp => ⟨fun _ => hp, fun h => absurd her h⟩
    unfold RetPrv
    rw [her] at h1 ⊢
    replace hres := Lib.hid hres
    replace her := Lib.hid her
    go_enter Try.func73, Try.ntmps73
    go_wp2_with fail
    rw [← hw1]
    clear hw1
    obtain ⟨c3, f3, l3⟩ := k3.rules
    go_wp2_with fail
    refine (h1 _ hs1).mono ?_
    rintro e W ⟨rfl, hb⟩
    clear c3 f3 l3 h1
    replace k3 := k3.below hb
    replace b := b.trans (hb.mono b.size)
    replace hs1 := hs1.below hb
    clear hb
    obtain ⟨c3, f3, l3⟩ := k3.rules
    go_wp2_with fail
    refine (h2 _ hs1).mono ?_
    rintro e W2 ⟨O, co, P, cp, d, rfl, -, hP, hch, hb⟩
    clear c3 f3 l3 h2 k3 hs1
    obtain ⟨rk, hrk⟩ : ∃ rk, RankOk l d rk := hch.rank
    have hplen := pathTo_len hr hch hrk
    have hfin : Hid (IsProof r l (pathTo d (rk (cnt l) + 1) (cnt l))) := Lib.hid ⟨d, rk, hch, hrk, rfl⟩
    have hoz := hb.size
    have hgO : w.heap.size ≤ W.heap.size := b.size
    replace b := b.trans (hb.mono b.size)
    clear hb
    obtain ⟨cl, hcl⟩ : ∃ cl, cnt l = cl := ⟨_, rfl⟩
    have hcn := cnt_le l
    rw [hl.out] at hplen
    have hby := Lib.hid (fun k (h : k ≤ cl) (h0 : 0 < k) => edgOk_mem hr (hch.by_ k (by rw [hcl]; exact h) h0).1)
    have hrk2 := Lib.hid (fun k (h : k ≤ cl) (h0 : 0 < k) => hrk k (by rw [hcl]; exact h) h0)
    have hdl := hch.len
    rw [hl.out] at hcn
    rw [hcl] at hP hcn hdl hplen hfin ⊢
    have hP0 := Lib.hid hP
    clear hP hch hrk
    have hdl2 := Lib.hid hdl
    clear hdl
    obtain ⟨F, hF⟩ : ∃ F, pathTo d (rk cl + 1) cl = F := ⟨_, rfl⟩
    rw [hF] at hplen hfin
    have hstart := Lib.hid hF
    clear hF
    have hcl2 := Lib.hid hcl
    clear hcl
    have hown0 : W2.ownsRow W2.heap.size 99 2 (.slice none 0 0) 0 (([] : List Clm).flatMap Clm.cells) := ⟨rfl, .inl ⟨rfl, rfl⟩⟩
    have u1 : IntKind.i64.wrap ((cl : Int) + 1 - 1) = (cl : Int) := by rw [IntWalk.i64_in _ (by omega)]; omega
    go_wp2_with fail
    go_loopg [9, 10] (rk cl + 1) (fun gk v i wr => ∃ (k : Nat) (q : List Clm), i = .int .i64 (k : Int) ∧ k ≤ cl ∧ rk k < gk ∧ wr.ownsRow W2.heap.size 99 2 v q.length (q.flatMap Clm.cells) ∧ Below W2.heap.size W2 wr ∧ q ++ pathTo d gk k = F)
    case atStart => exact ⟨cl, [], by go_num, Nat.le_refl _, Nat.lt_succ_self _, hown0, Below.refl _ _, hstart.out⟩
    case round =>
      clear hown0 hstart
      obtain ⟨k, q, rfl, hk, hgk, hown, hb, hq⟩ := hrel
      have hql : q.length ≤ n + 1 := by rw [← hq, List.length_append] at hplen; omega
      obtain ⟨qn, hqn⟩ : ∃ qn, q.length = qn := ⟨_, rfl⟩
      have hqn2 : qn ≤ n + 1 := by omega
      by_cases hlt : 0 < k
      · have hk0 : (0 : Int) < (k : Int) := by omega
        have hk00 : (0 : Int) ≤ (k : Int) := by omega
        have hk1 : (k : Int) < (cl : Int) + 1 := by omega
        obtain ⟨x, hx⟩ := some_of_lt (xs := d) hdl2.out (show k < cl + 1 by omega)
        have hxd : d.getD k edg0 = x := by rw [List.getD_eq_getElem?_getD, hx]; rfl
        have hxo := hby.out k hk hlt
        have hxr := hrk2.out k hk hlt
        have hps := pathTo_succ d (gk - 1) k hlt
        rw [show gk - 1 + 1 = gk from by omega] at hps
        rw [hxd] at hxo hxr hps
        have hfr := hxo.fr
        rw [hcl2.out] at hfr
        clear hxo
        rw [hps] at hq
        obtain ⟨bb, oo, hA, -, hbl, e0, -, -, e3, e4⟩ := hP0.out.edg hx
        have e0W := Lib.hid e0
        replace e0 := (hb.cell (p := ⟨bb, oo + k * 5, none⟩) hbl).trans e0
        replace e3 := (hb.cell (p := ⟨bb, oo + k * 5 + 3, none⟩) hbl).trans e3
        replace e4 := (hb.cell (p := ⟨bb, oo + k * 5 + 4, none⟩) hbl).trans e4
        replace hA := Lib.hid hA
        have hAA := hA.out
        subst hAA
        obtain ⟨f, t, ls, ru, cf⟩ := x
        unfold clmOf at hq
        dsimp only at e0 e3 e4 hfr hxr hq
        have hgk2 : rk f < gk - 1 := by omega
        replace hx := Lib.hid hx
        replace hxd := Lib.hid hxd
        clear hps
        by_cases hz : ru = 0 ∧ cf = 0
        · obtain ⟨rfl, rfl⟩ := hz
          rw [if_pos rfl, List.nil_append] at hq
          replace hq := Lib.hid hq
          replace hqn := Lib.hid hqn
          go_wp2_with fail
          go_roundg (gk - 1)
          case measure => omega
          case rel => exact ⟨f, q, by first | rfl | go_num, hfr, hgk2, hown, hb, hq.out⟩
        · rw [if_neg (by intro e; cases e; exact hz ⟨rfl, rfl⟩)] at hq
          replace hq := Lib.hid hq
          replace hqn := Lib.hid hqn
          by_cases hru : ru = 0
          · have hcf : (cf == 0) = false := by rw [beq_eq_false_iff_ne]; exact fun h => hz ⟨hru, h⟩
            have hru2 : (ru == 0) = true := by rw [beq_iff_eq]; exact hru
            replace hru := Lib.hid hru
            clear hz
            have hbig1 : Hid (qn + 1 ≤ maxLen) := by show qn + 1 ≤ maxLen; unfold maxLen; omega
            have hbig2 : Hid ((qn + 1) * 16 ≤ 140737488355328) := by show (qn + 1) * 16 ≤ 140737488355328; omega
            obtain ⟨i0, hi0, hz0, hz1, hz2⟩ := info_parts Try.infoClm
            have hnews : ∀ (j : Nat) (u : Value), ([.int .i64 ru, .int .i64 cf] : List Value)[j]? = some u → (wr.alloc (.cells #[.int .i64 ru, .int .i64 cf] 99)).cell? ((⟨wr.heap.size, 0, none⟩ : Addr).add j) = some u :=
              World.news_of_block (cs := #[.int .i64 ru, .int .i64 cf]) (World.alloc_heap_new wr _)
            rw [hqn.out] at hown
            have hownf := hown.alloc (.cells #[.int .i64 ru, .int .i64 cf] 99)
            have hbf := hb.alloc hb.size (.cells #[.int .i64 ru, .int .i64 cf] 99)
            go_wp2_with (at_builtin; refine wpList_append_lies _ rfl (.tmp 40) (.tmp 46) 67 rfl W2.heap.size 99 i0 (.agg #[.int .i64 0, .int .i64 0]) 2 16 Try.underlying67 hi0 hz0 hz1 hz2 rfl (by decide) u9 qn (q.flatMap Clm.cells) rfl hownf ⟨wr.heap.size, 0, none⟩ 1 1 [.int .i64 ru, .int .i64 cf] rfl rfl hnews (by simp [Value.oneCell']) (by decide) hbig1.out hbig2.out (hbf.size) (wr.heap.size + 1) (by simp) ?_; intro g cap w7 hown7 hgrow hlies hlt7; have hbg : Below W2.heap.size _ w7 := ⟨hgrow.os, hgrow.tape, hgrow.output, hgrow.size, fun b hb2 => hgrow.block b (Nat.lt_of_lt_of_le hb2 hbf.size) (fun e => by have := (hownf.lt _ e.symm).1; omega)⟩; have hbh := hbf.trans hbg; have e07 := (hbh.cell (p := ⟨bb, oo + k * 5, none⟩) hbl).trans e0W.out)
            go_roundg (gk - 1)
            case measure => omega
            case rel => exact ⟨f, q ++ [⟨ru, cf⟩], by first | rfl | go_num, hfr, hgk2, by rw [List.length_append, hqn.out, List.flatMap_append]; exact hown7, hbh, by rw [List.append_assoc]; exact hq.out⟩
          · have hru2 : (ru == 0) = false := by rw [beq_eq_false_iff_ne]; exact hru
            replace hru := Lib.hid hru
            clear hz
            have hbig1 : Hid (qn + 1 ≤ maxLen) := by show qn + 1 ≤ maxLen; unfold maxLen; omega
            have hbig2 : Hid ((qn + 1) * 16 ≤ 140737488355328) := by show (qn + 1) * 16 ≤ 140737488355328; omega
            obtain ⟨i0, hi0, hz0, hz1, hz2⟩ := info_parts Try.infoClm
            have hnews : ∀ (j : Nat) (u : Value), ([.int .i64 ru, .int .i64 cf] : List Value)[j]? = some u → (wr.alloc (.cells #[.int .i64 ru, .int .i64 cf] 99)).cell? ((⟨wr.heap.size, 0, none⟩ : Addr).add j) = some u :=
              World.news_of_block (cs := #[.int .i64 ru, .int .i64 cf]) (World.alloc_heap_new wr _)
            rw [hqn.out] at hown
            have hownf := hown.alloc (.cells #[.int .i64 ru, .int .i64 cf] 99)
            have hbf := hb.alloc hb.size (.cells #[.int .i64 ru, .int .i64 cf] 99)
            go_wp2_with (at_builtin; refine wpList_append_lies _ rfl (.tmp 40) (.tmp 46) 67 rfl W2.heap.size 99 i0 (.agg #[.int .i64 0, .int .i64 0]) 2 16 Try.underlying67 hi0 hz0 hz1 hz2 rfl (by decide) u9 qn (q.flatMap Clm.cells) rfl hownf ⟨wr.heap.size, 0, none⟩ 1 1 [.int .i64 ru, .int .i64 cf] rfl rfl hnews (by simp [Value.oneCell']) (by decide) hbig1.out hbig2.out (hbf.size) (wr.heap.size + 1) (by simp) ?_; intro g cap w7 hown7 hgrow hlies hlt7; have hbg : Below W2.heap.size _ w7 := ⟨hgrow.os, hgrow.tape, hgrow.output, hgrow.size, fun b hb2 => hgrow.block b (Nat.lt_of_lt_of_le hb2 hbf.size) (fun e => by have := (hownf.lt _ e.symm).1; omega)⟩; have hbh := hbf.trans hbg; have e07 := (hbh.cell (p := ⟨bb, oo + k * 5, none⟩) hbl).trans e0W.out)
            go_roundg (gk - 1)
            case measure => omega
            case rel => exact ⟨f, q ++ [⟨ru, cf⟩], by first | rfl | go_num, hfr, hgk2, by rw [List.length_append, hqn.out, List.flatMap_append]; exact hown7, hbh, by rw [List.append_assoc]; exact hq.out⟩
      · obtain rfl : k = 0 := by omega
        rw [pathTo_zero, List.append_nil] at hq
        subst hq
        obtain ⟨O9, co9, e9, h9⟩ := SlAt.of_own (enc := Clm.cells) hown (by omega) q rfl (fun _ => rfl) rfl
        subst e9
        have hsz := b.size
        replace hqn := Lib.hid hqn
        go_wp2_with fail
        go_ret2
        exact ⟨O9, q.length, co9, q, rfl, h9.mono (by omega), hpok.out _ hfin.out, b.trans (hb.mono (by omega))⟩
  · have hpok : Hid (PrvOk r l []) := Lib.hid ⟨fun h => absurd h her, fun _ => rfl⟩
    unfold RetPrv
    generalize errJ r l 1 = q at *
    have hz2 : (q != 0) = true := by rw [bne_iff_ne]; exact her
    replace her := Lib.hid her
    go_enter Try.func73, Try.ntmps73
    go_wp2_with fail
    rw [← hw1]
    clear hw1
    obtain ⟨c3, f3, l3⟩ := k3.rules
    go_wp2_with fail
    refine (h1 _ hs1).mono ?_
    rintro e W ⟨rfl, hb⟩
    clear c3 f3 l3
    go_wp2_with fail
    go_ret2
    exact ⟨none, 0, 0, [], rfl, SlAt.nil _ _ _ _, hpok.out, b.trans (hb.mono b.size)⟩
end Go.Proofs.Ytfengddpfeneiaa
namespace Go.Proofs.Ytfengddpfeneiaa
open Go.RowKit Go.Shelf
set_option linter.unusedSimpArgs false
set_option linter.unusedVariables false

theorem keepTo_zero (r : Rul) (l : List Int) {k : Nat} {x : Int} (hx : l.getD k 0 = x) (h : brkS r (keepTo r l k ++ [x]) k ≠ 0) : keepTo r l (k + 1) = (keepTo r l k ++ [x]).set k 0 := by
  rw [keepTo, hx, if_neg h]
  have hl := keepTo_len r l k
  rw [List.set_append, if_neg (by omega), hl, Nat.sub_self]
  rfl
theorem keepTo_keep (r : Rul) (l : List Int) {k : Nat} {x : Int} (hx : l.getD k 0 = x) (h : brkS r (keepTo r l k ++ [x]) k = 0) : keepTo r l (k + 1) = keepTo r l k ++ [x] := by
  rw [keepTo, hx, if_pos h]
theorem fewTo_hit (r : Rul) (l : List Int) {k : Nat} {x : Int} (hx : l.getD k 0 = x) (h : brkS r (keepTo r l k ++ [x]) k ≠ 0) : fewTo r l (k + 1) = fewTo r l k + 1 := by
  rw [fewTo, hx, if_neg h]
theorem fewTo_miss (r : Rul) (l : List Int) {k : Nat} {x : Int} (hx : l.getD k 0 = x) (h : brkS r (keepTo r l k ++ [x]) k = 0) : fewTo r l (k + 1) = fewTo r l k := by
  rw [fewTo, hx, if_pos h, Int.add_zero]
set_option maxRecDepth 100000 in
set_option maxHeartbeats 4000000 in
theorem RFewest_any (r : Rul) (hr : okRul r = true) (l : List Int) (A : Option Addr) (n c B : Nat) (w : World) (hn : n ≤ 256) (hs : SlAt w B 1 ivs A n c l) :
    Calls Try.prog 74 #[.agg #[.int .i64 r.row, .int .i64 r.win, .int .i64 r.many, .int .i64 r.total], .slice A n c] w fun e w' => e = .returned (.int .i64 (fewTo r l l.length)) ∧ Below w.heap.size w w' := by
  have hl := Lib.hid hs.len
  obtain ⟨w1, hw1⟩ : ∃ w1, w1 = w.alloc (.cells #[.int .i64 r.row, .int .i64 r.win, .int .i64 r.many, .int .i64 r.total] 57) := ⟨_, rfl⟩
  have k3 : Blk w1 w.heap.size 57 #[.int .i64 r.row, .int .i64 r.win, .int .i64 r.many, .int .i64 r.total] := by rw [hw1]; exact Blk.new _ _ _
  have b : Below w.heap.size w w1 := by rw [hw1]; exact (Below.refl _ _).alloc (Nat.le_refl _) _
  have hs1 : SlAt w1 B 1 ivs A n c l := by rw [hw1]; exact hs.alloc _
  clear hs
  have hfin : Hid (fewTo r l l.length = fewTo r l n) := by show _ = _; rw [hl.out]
  have hfb := Lib.hid (fewTo_bd r l)
  have hbrk := fun (L : List Int) (A : Option Addr) (n c B i : Nat) (W : World) h1 h2 => Rbreaks_any r hr L A n c B i W h1 h2
  rw [hfin.out]
  obtain ⟨i0, hi0, hz0, hz1, hz2⟩ := info_parts Try.infoInt
  go_enter Try.func74, Try.ntmps74
  go_wp2_with fail
  rw [← hw1]
  clear hw1
  go_loopw [5, 6, 7] (fun v m i wr => ∃ k : Nat, i = .int .i64 (k : Int) ∧ k ≤ n ∧ m = .int .i64 (fewTo r l k) ∧ wr.ownsRow w1.heap.size 3 1 v k ((keepTo r l k).map (.int .i64 ·)) ∧ Below w1.heap.size w1 wr) (fun v m i wr => n - (intOf i).toNat)
  case atStart => exact ⟨0, rfl, Nat.zero_le _, rfl, ⟨rfl, .inl ⟨rfl, rfl⟩⟩, Below.refl _ _⟩
  case round =>
    obtain ⟨k, rfl, hk, rfl, hown, hb⟩ := hrel
    by_cases hlt : k < n
    · have hk0 : (0 : Int) ≤ (k : Int) := by omega
      have hk1 : (k : Int) < (n : Int) := by omega
      obtain ⟨x, hx⟩ := some_of_lt hl.out hlt
      have hgx : l.getD k 0 = x := by rw [List.getD_eq_getElem?_getD, hx]; rfl
      obtain ⟨bb, off, hA, -, hbl, e0⟩ := (hs1.below hb).int hx
      subst hA
      have hlk := Lib.hid (keepTo_len r l k)
      have hbd := hfb.out k
      have h1 := Lib.hid (keepTo_zero r l (k := k) hgx)
      have h2 := Lib.hid (keepTo_keep r l (k := k) hgx)
      have h3 := Lib.hid (fewTo_hit r l (k := k) hgx)
      have h4 := Lib.hid (fewTo_miss r l (k := k) hgx)
      have hmap : Hid (((keepTo r l k).map (Value.int .i64 ·)) ++ [.int .i64 x] = (keepTo r l k ++ [x]).map (.int .i64 ·)) := by show _ = _; simp
      replace hx := Lib.hid hx
      replace hgx := Lib.hid hgx
      have hbig1 : Hid (k + 1 ≤ maxLen) := by show k + 1 ≤ maxLen; unfold maxLen; omega
      have hbig2 : Hid ((k + 1) * 8 ≤ 140737488355328) := by show (k + 1) * 8 ≤ 140737488355328; omega
      have hnews : ∀ (j : Nat) (u : Value), ([.int .i64 x] : List Value)[j]? = some u → (wr.alloc (.cells #[.int .i64 x] 3)).cell? ((⟨wr.heap.size, 0, none⟩ : Addr).add j) = some u :=
        World.news_of_block (cs := #[.int .i64 x]) (World.alloc_heap_new wr _)
      have hownf := hown.alloc (.cells #[.int .i64 x] 3)
      have hbf := hb.alloc hb.size (.cells #[.int .i64 x] 3)
      generalize fewTo r l k = fk at *
      go_wp2_with (at_builtin; refine wpList_append_lies _ rfl (.tmp 14) (.tmp 19) 22 rfl w1.heap.size 3 i0 (.int .i64 0) 1 8 Try.underlying22 hi0 hz0 hz1 hz2 rfl (by decide) u5 k ((keepTo r l k).map (.int .i64 ·)) rfl hownf ⟨wr.heap.size, 0, none⟩ 1 1 [.int .i64 x] rfl rfl hnews (by simp [Value.oneCell']) (by decide) hbig1.out hbig2.out (hbf.size) (wr.heap.size + 1) (by simp) ?_; intro g cap w7 hown7 hgrow hlies hlt7; have hbg : Below w1.heap.size _ w7 := ⟨hgrow.os, hgrow.tape, hgrow.output, hgrow.size, fun b hb2 => hgrow.block b (Nat.lt_of_lt_of_le hb2 hbf.size) (fun e => by have := (hownf.lt _ e.symm).1; omega)⟩; have hbh := hbf.trans hbg; obtain ⟨c3, f3, l3⟩ := (k3.below hbh).rules)
      rw [hmap.out] at hown7
      have hown8 := hown7
      obtain ⟨Z, zc, eZ, hZ⟩ := SlAt.of_own (enc := ivs) hown8 (by omega) (keepTo r l k ++ [x]) (flatMap_ivs _).symm (fun _ => rfl) (by rw [List.length_append, hlk.out]; rfl)
      simp only [Value.slice.injEq, true_and] at eZ
      obtain ⟨rfl, rfl⟩ := eZ
      clear hown8 hownf hbf hbg hgrow hlies hlt7 hnews hown hb
      refine (hbrk _ _ _ _ _ k _ (Nat.lt_succ_self k) hZ).mono ?_
      rintro e W5 ⟨rfl, hb5⟩
      replace hbh := hbh.trans (hb5.mono hbh.size)
      replace hown7 := ownsRow_below hown7 hb5
      clear hZ c3 f3 l3 hb5
      by_cases hz : brkS r (keepTo r l k ++ [x]) k = 0
      · have g2 := Lib.hid (h2.out hz)
        have g4 := Lib.hid (h4.out hz)
        rw [hz]
        clear hz h1 h2 h3 h4
        go_wp2_with fail
        go_roundw
        case rel => exact ⟨k + 1, by go_num, by omega, by rw [g4.out], by rw [g2.out]; exact hown7, hbh⟩
        case measure => simp [intOf]; omega
      · have g2 := Lib.hid (h1.out hz)
        have g4 := Lib.hid (h3.out hz)
        obtain ⟨v0, hcc⟩ := own_cell hown7 (j := k) (by omega)
        have hfr := hown7.frozenAt k
        have hown9 := Lib.hid ((hown7.stored k (.int .i64 0)).1)
        rw [← List.map_set, ← g2.out] at hown9
        have hgw := (hown7.lt _ rfl).1
        have hbz := hbh.setCell (p := ⟨_, k, none⟩) hgw (.int .i64 0)
        have hkk2 : (k : Int) < (k : Int) + 1 := by omega
        have u4 := IntWalk.i64_in (fk + 1) (by omega)
        have hz2 : (brkS r (keepTo r l k ++ [x]) k != 0) = true := by rw [bne_iff_ne]; exact hz
        generalize brkS r (keepTo r l k ++ [x]) k = bq at *
        replace hz := Lib.hid hz
        clear h1 h2 h3 h4
        go_wp2_with fail
        go_roundw
        case rel => exact ⟨k + 1, by go_num, by omega, by rw [g4.out], hown9.out, hbz⟩
        case measure => simp [intOf]; omega
    · obtain rfl : k = n := by omega
      go_wp2_with fail
      go_ret
      exact ⟨rfl, b.trans (hb.mono b.size)⟩
theorem zeroAt_take {l x : List Int} {k : Nat} {v : Int} (h : x[k]? = some v) : zeroAt l (x.take (k + 1)) = (zeroAt l (x.take k)).set v.toNat 0 := by
  rw [List.take_add_one, h]
  exact zeroAt_snoc _ _ _
set_option maxRecDepth 100000 in
set_option maxHeartbeats 4000000 in
theorem RRepeats_any (r : Rul) (hr : okRul r = true) (l x : List Int) (hok : OkRep l x) (A X : Option Addr) (n c nx cx B B2 : Nat) (w : World) (hn : n ≤ 256) (hs : SlAt w B 1 ivs A n c l) (hx : SlAt w B2 1 ivs X nx cx x) :
    Calls Try.prog 75 #[.agg #[.int .i64 r.row, .int .i64 r.win, .int .i64 r.many, .int .i64 r.total], .slice A n c, .slice X nx cx] w fun e w' => e = .returned (.bool (decide ((judgeS r (zeroAt l x)).2 = 0))) ∧ Below w.heap.size w w' := by
  have hl := Lib.hid hs.len
  have hxl := Lib.hid hx.len
  have hxn := hx.le
  obtain ⟨w1, hw1⟩ : ∃ w1, w1 = w.alloc (.cells #[.int .i64 r.row, .int .i64 r.win, .int .i64 r.many, .int .i64 r.total] 57) := ⟨_, rfl⟩
  have k3 : Blk w1 w.heap.size 57 #[.int .i64 r.row, .int .i64 r.win, .int .i64 r.many, .int .i64 r.total] := by rw [hw1]; exact Blk.new _ _ _
  have b : Below w.heap.size w w1 := by rw [hw1]; exact (Below.refl _ _).alloc (Nat.le_refl _) _
  have hs1 : SlAt w1 B 1 ivs A n c l := by rw [hw1]; exact hs.alloc _
  have hx1 : SlAt w1 B2 1 ivs X nx cx x := by rw [hw1]; exact hx.alloc _
  clear hs hx
  have hok2 := Lib.hid hok
  clear hok
  have hOw := fun W h => OwnQ_any l A n c B W (by omega) h
  have hju := fun (L : List Int) (A : Option Addr) (n c B : Nat) (W : World) h1 => Rjudge_any r hr L A n c B W h1
  go_enter Try.func75, Try.ntmps75
  go_wp2_with fail
  rw [← hw1]
  clear hw1
  refine (hOw _ hs1).mono ?_
  rintro e W ⟨v, rfl, hv, hbW⟩
  clear hOw
  obtain ⟨P, pc, rfl, -⟩ := SlAt.of_own (enc := ivs) hv (by omega) l (flatMap_ivs _).symm (fun _ => rfl) hl.out
  have hW0 := Lib.hid (show w1.heap.size ≤ W.heap.size from hbW.size)
  go_wp2_with fail
  go_loopw [8] (fun i wr => ∃ k : Nat, i = .int .i64 (k : Int) ∧ k ≤ nx ∧ wr.ownsRow w1.heap.size 3 1 (.slice P n pc) n ((zeroAt l (x.take k)).map (.int .i64 ·)) ∧ Below w1.heap.size w1 wr) (fun i wr => nx - (intOf i).toNat)
  case atStart => exact ⟨0, rfl, Nat.zero_le _, hv, hbW⟩
  case round =>
    clear hv
    obtain ⟨k, rfl, hk, hown, hb⟩ := hrel
    by_cases hlt : k < nx
    · have hk0 : (0 : Int) ≤ (k : Int) := by omega
      have hk1 : (k : Int) < (nx : Int) := by omega
      obtain ⟨v, hv⟩ := some_of_lt hxl.out hlt
      obtain ⟨hv0, hv1, hv2⟩ := hok2.out.2 v (List.mem_of_getElem? hv)
      have hvn : v.toNat < n := by have := hl.out; omega
      have hvn2 : v < (n : Int) := by have := hl.out; omega
      have hgl := getD_of_lt (l := l) (i := v.toNat) (by rw [hl.out]; exact hvn)
      rw [hv2] at hgl
      obtain ⟨bb, off, hA, -, hbl, e0⟩ := (hs1.below hb).int hgl
      obtain ⟨bx, ox, hX, -, hblx, c0⟩ := (hx1.below hb).int hv
      rcases hown.2 with ⟨-, h0⟩ | ⟨g, cap, cur, e9, hg, -⟩
      · omega
      simp only [Value.slice.injEq, true_and] at e9
      obtain ⟨rfl, rfl⟩ := e9
      have hzt := Lib.hid (zeroAt_take (l := l) hv)
      have hvb : (0 : Int) ≤ v ∧ v ≤ (n : Int) - 1 := by omega
      have hB := fun W => flip_w (show Calls _ _ _ _ _ from by have := Between_any v 0 ((n : Int) - 1) W; rw [decide_eq_true hvb] at this; exact this)
      have u1 := IntWalk.i64_in ((n : Int) - 1) (by omega)
      clear hgl hvb hv2 hv1 hg
      by_cases hkz : k = 0
      · have hkq : (0 < k) = False := eq_false (by omega)
        replace hkz := Lib.hid hkz
        replace hv := Lib.hid hv
        replace hA := Lib.hid hA
        replace hX := Lib.hid hX
        have hAA := hA.out
        have hXX := hX.out
        subst hAA
        subst hXX
        go_wp2_with fail
        go_quiet ((go_at_call 54; with_reducible exact Calls.quiet_of_same (hB _)))
        have hbd := below_drewN (Below.refl wr.heap.size wr) nq
        replace hown := ownsRow_below hown hbd
        replace c0 := (hbd.cell (p := ⟨bx, ox + k, none⟩) hblx).trans c0
        replace hb := hb.trans (hbd.mono hb.size)
        clear hbd
        generalize wr.drewN nq = Wd at *
        obtain ⟨v0, hcc⟩ := own_cell hown (j := v.toNat) (by omega)
        have hfr := hown.frozenAt v.toNat
        have hown9 := Lib.hid ((hown.stored v.toNat (.int .i64 0)).1)
        rw [← List.map_set, ← hzt.out] at hown9
        have hgw := (hown.lt _ rfl).1
        have hbz := hb.setCell (p := ⟨g, v.toNat, none⟩) (by have := hW0.out; dsimp only; omega) (.int .i64 0)
        go_wp2_with fail
        go_roundw
        case rel => exact ⟨k + 1, by go_num, by omega, hown9.out, hbz⟩
        case measure => simp [intOf]; omega
      · have hkq : (0 < k) = True := eq_true (by omega)
        obtain ⟨v1, hv1⟩ := some_of_lt hxl.out (show k - 1 < nx by omega)
        have hlv := hok2.out.lt (j := k - 1) hv1 (by rw [show k - 1 + 1 = k from by omega]; exact hv)
        have hge : (v ≤ v1) = False := eq_false (by omega)
        obtain ⟨bx2, ox2, hX2, -, -, c1⟩ := (hx1.below hb).int hv1
        rw [hX] at hX2
        simp only [Option.some.injEq, Addr.mk.injEq, and_true] at hX2
        obtain ⟨rfl, rfl⟩ := hX2
        have u2 := IntWalk.i64_in ((k : Int) - 1) (by omega)
        have u3 : ((k : Int) - 1).toNat = k - 1 := by omega
        have z1 : (0 : Int) ≤ (k : Int) - 1 := by omega
        have z2 : (k : Int) - 1 < (nx : Int) := by omega
        clear hlv
        replace hkz := Lib.hid hkz
        replace hv := Lib.hid hv
        replace hv1 := Lib.hid hv1
        replace hA := Lib.hid hA
        replace hX := Lib.hid hX
        have hAA := hA.out
        have hXX := hX.out
        subst hAA
        subst hXX
        go_wp2_with fail
        go_quiet ((go_at_call 54; with_reducible exact Calls.quiet_of_same (hB _)))
        have hbd := below_drewN (Below.refl wr.heap.size wr) nq
        replace hown := ownsRow_below hown hbd
        replace c0 := (hbd.cell (p := ⟨bx, ox + k, none⟩) hblx).trans c0
        replace hb := hb.trans (hbd.mono hb.size)
        clear hbd
        generalize wr.drewN nq = Wd at *
        obtain ⟨v0, hcc⟩ := own_cell hown (j := v.toNat) (by omega)
        have hfr := hown.frozenAt v.toNat
        have hown9 := Lib.hid ((hown.stored v.toNat (.int .i64 0)).1)
        rw [← List.map_set, ← hzt.out] at hown9
        have hgw := (hown.lt _ rfl).1
        have hbz := hb.setCell (p := ⟨g, v.toNat, none⟩) (by have := hW0.out; dsimp only; omega) (.int .i64 0)
        go_wp2_with fail
        go_roundw
        case rel => exact ⟨k + 1, by go_num, by omega, hown9.out, hbz⟩
        case measure => simp [intOf]; omega
    · obtain rfl : k = nx := by omega
      rw [List.take_of_length_le (by rw [hxl.out]; exact Nat.le_refl _)] at hown
      obtain ⟨Z, zc, eZ, hZ⟩ := SlAt.of_own (enc := ivs) hown (by omega) (zeroAt l x) (flatMap_ivs _).symm (fun _ => rfl) (by rw [zeroAt_len, hl.out])
      simp only [Value.slice.injEq, true_and] at eZ
      obtain ⟨rfl, rfl⟩ := eZ
      replace b := b.trans (hb.mono b.size)
      obtain ⟨c3, f3, l3⟩ := (k3.below hb).rules
      generalize hlj : judgeS r (zeroAt l x) = jj at *
      have hj := hju (zeroAt l x) _ _ _ _ _ hZ
      rw [hlj] at hj
      replace hlj := Lib.hid hlj
      go_wp2_with fail
      refine hj.mono ?_
      rintro e W5 ⟨rfl, hb5⟩
      go_wp2_with fail
      go_ret
      exact ⟨ret_bool (by rw [hlj.out, Bool.eq_iff_iff]; simp), b.trans (hb5.mono b.size)⟩
end Go.Proofs.Ytfengddpfeneiaa
