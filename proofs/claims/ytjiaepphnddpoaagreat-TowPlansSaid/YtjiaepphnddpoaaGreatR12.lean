/-
  The specification's package: CheckWaters, strained, Watch, Keeps.
-/
import Derived.Test.YtjiaepphnddpoaaGreatR8
import Derived.Test.YtjiaepphnddpoaaGreatW9
import Derived.Test.YtjiaepphnddpoaaGreatR11
namespace Go.Proofs.YtjiaepphnddpoaaGreat
open Go.RowKit Go.Shelf
set_option linter.unusedSimpArgs false
set_option linter.unusedVariables false

theorem errW_wats {s : Strm} {bs : List Bnd} {l : List Wat} {v : List Int} (h : errW s bs l v = 0) : l.length ≤ 48 := by
  have hb : errBW s bs l = 0 := by
    by_cases hb : errBW s bs l = 0
    · exact hb
    · rw [errW, if_neg hb] at h; exact absurd h hb
  have h3 := (errBW_zero hb).2
  unfold okWats at h3
  simp only [Bool.and_eq_true, decide_eq_true_eq] at h3
  exact h3.1
theorem watTo_succ {l : List Wat} {k : Nat} {x : Wat} (hk : l[k]? = some x) : (l.take (k + 1)).all okWat = ((l.take k).all okWat && okWat x) := by
  rw [List.take_add_one, hk]; simp
set_option maxRecDepth 100000 in
set_option maxHeartbeats 1000000 in
theorem RWaters_any (O : Option Addr) (no co B : Nat) (l : List Wat) (w : World) (hs : SlAt w B 4 Wat.cells O no co l) :
    Calls Tryz.prog 16 #[.slice O no co] w fun e w' => e = .returned (.int .i64 (chkWats l)) ∧ Below w.heap.size w w' := by
  have hl := Lib.hid hs.len
  have hno := hs.le
  have hv : Hid (chkWats l = if (decide ((no : Int) ≤ 48) && l.all okWat) = true then 0 else 33) := by
    show _ = _
    unfold chkWats okWats
    rw [hl.out]
    have : decide (no ≤ 48) = decide ((no : Int) ≤ 48) := by apply dec_eq; omega
    rw [this]
  go_enter Tryz.func16, Tryz.ntmps16
  go_wp2_with fail
  go_loopw [3, 4] (fun q i wr => ∃ k : Nat, i = .int .i64 k ∧ k ≤ no ∧ q = .bool (decide ((no : Int) ≤ 48) && (l.take k).all okWat) ∧ Below w.heap.size w wr) (fun q i wr => no - (intOf i).toNat)
  case atStart => exact ⟨0, rfl, Nat.zero_le _, congrArg Value.bool (by rw [List.take_zero, List.all_nil, Bool.and_true]), Below.refl _ _⟩
  case round =>
    obtain ⟨k, rfl, hk, rfl, hb⟩ := hrel
    by_cases hlt : k < no
    · obtain ⟨x, hx⟩ := some_of_lt hl.out hlt
      have hst := Lib.hid (watTo_succ hx)
      obtain ⟨b, off, rfl, -, hbl, c0, c1, c2, c3⟩ := (hs.keep hb.size (fun _ _ h => hb.cell h)).wat hx
      replace hx := Lib.hid hx
      clear hs
      have hk0 : (0 : Int) ≤ (k : Int) := by omega
      have hk1 : (k : Int) < (no : Int) := by omega
      have hE := fun W => rends_any x.acr (-100) 100 W
      have hF := fun W => Ralong_any x.alo W
      obtain ⟨o1, ho1⟩ : ∃ o1, okBnd 100 x.acr = o1 := ⟨_, rfl⟩
      obtain ⟨o2, ho2⟩ : ∃ o2, okBnd 50 x.alo = o2 := ⟨_, rfl⟩
      have ho1b : decide (-100 ≤ x.acr.lo ∧ x.acr.lo ≤ x.acr.hi ∧ x.acr.hi ≤ 100) = o1 := ho1
      simp only [ho1b] at hE
      simp only [ho2] at hF
      have hw : okWat x = (o1 && o2) := by rw [okWat, ho1, ho2]
      rw [hw] at hst
      clear ho1 ho2 ho1b hw
      cases hq : (decide ((no : Int) ≤ 48) && (l.take k).all okWat) with
      | false =>
        have hst2 : Hid ((decide ((no : Int) ≤ 48) && (l.take (k + 1)).all okWat) = false) := by show _ = _; rw [hst.out, ← Bool.and_assoc, hq]; rfl
        clear hq
        go_wp2
        go_roundw
        case rel => exact ⟨k + 1, by go_num, by omega, by rw [hst2.out], hb⟩
        case measure => simp [intOf]; omega
      | true =>
        have hst2 : Hid ((decide ((no : Int) ≤ 48) && (l.take (k + 1)).all okWat) = (o1 && o2)) := by show _ = _; rw [hst.out, ← Bool.and_assoc, hq]; simp
        clear hq
        cases o1 with
        | false =>
          go_wp2_with fail
          refine (hE _).mono ?_
          rintro e w' ⟨rfl, hb1⟩
          clear c0 c1 c2 c3
          go_wp2
          go_roundw
          case rel => exact ⟨k + 1, by go_num, by omega, by rw [hst2.out]; rfl, hb.trans (hb1.mono hb.size)⟩
          case measure => simp [intOf]; omega
        | true =>
          go_wp2_with fail
          refine (hE _).mono ?_
          rintro e w' ⟨rfl, hb1⟩
          replace c2 := (hb1.cell (p := ⟨b, off + k * 4 + 2, none⟩) hbl).trans c2
          replace c3 := (hb1.cell (p := ⟨b, off + k * 4 + 3, none⟩) hbl).trans c3
          clear c0 c1
          go_wp2_with fail
          refine (hF _).mono ?_
          rintro e w2 ⟨rfl, hb2⟩
          go_wp2
          go_roundw
          case rel => exact ⟨k + 1, by go_num, by omega, by rw [hst2.out]; rfl, (hb.trans (hb1.mono hb.size)).trans (hb2.mono (Nat.le_trans hb.size hb1.size))⟩
          case measure => simp [intOf]; omega
    · obtain rfl : k = no := by omega
      have ht : l.take k = l := List.take_of_length_le (by rw [hl.out]; exact Nat.le_refl _)
      rw [ht]
      cases hq : (decide ((k : Int) ≤ 48) && l.all okWat) with
      | false =>
        rw [hq] at hv
        replace hq := Lib.hid hq
        go_wp2
        go_ret
        exact ⟨ret_int (by rw [hv.out]; rfl), hb⟩
      | true =>
        rw [hq] at hv
        replace hq := Lib.hid hq
        go_wp2
        go_ret
        exact ⟨ret_int (by rw [hv.out]; rfl), hb⟩
set_option maxRecDepth 100000 in
set_option maxHeartbeats 1000000 in
theorem Rfast_any (O : Option Addr) (no co B : Nat) (l : List Int) (w : World) (hs : SlAt w B 1 ivs O no co l) :
    Calls Tryz.prog 76 #[.slice O no co] w fun e w' => e = .returned (.bool (okSpeeds l)) ∧ w = w' := by
  have hl := Lib.hid hs.len
  have hn := hs.le
  go_enter Tryz.func76, Tryz.ntmps76
  go_wp2_with fail
  go_loopw [3] (fun i wr => ∃ k : Nat, i = .int .i64 k ∧ k ≤ no ∧ (l.take k).all okSpeed = true ∧ wr = w) (fun i wr => no - (intOf i).toNat)
  case atStart => exact ⟨0, rfl, Nat.zero_le _, rfl, rfl⟩
  case round =>
    obtain ⟨k, rfl, hk, hok, rfl⟩ := hrel
    by_cases hlt : k < no
    · obtain ⟨x, hx⟩ := some_of_lt hl.out hlt
      obtain ⟨b, off, rfl, -, hbl, e0⟩ := hs.int hx
      have hB := fun W => Between_any x 0 100 W
      have hst : Hid ((l.take (k + 1)).all okSpeed = ((l.take k).all okSpeed && okSpeed x)) := by show _ = _; rw [List.take_add_one, hx]; simp
      have hbad : okSpeed x = false → okSpeeds l = false := fun h => by unfold okSpeeds; rw [List.all_eq_false]; exact ⟨x, List.mem_of_getElem? hx, by simp [h]⟩
      replace hbad := Lib.hid hbad
      replace hx := Lib.hid hx
      have hk0 : (0 : Int) ≤ (k : Int) := by omega
      have hk1 : (k : Int) < (no : Int) := by omega
      by_cases hq : 0 ≤ x ∧ x ≤ 100
      · have hq2 : Hid (okSpeed x = true) := decide_eq_true hq
        simp only [decide_eq_true hq] at hB
        replace hok := Lib.hid hok
        clear hq
        go_wp2_with fail
        refine (hB _).mono ?_
        rintro e w' ⟨rfl, rfl⟩
        go_wp2_with fail
        go_roundw
        case rel => exact ⟨k + 1, by go_num, by omega, by rw [hst.out, hok.out, hq2.out]; rfl, by trivial⟩
        case measure => simp [intOf]; omega
      · have hq2 : Hid (okSpeed x = false) := decide_eq_false hq
        simp only [decide_eq_false hq] at hB
        clear hq
        have hv := Lib.hid (hbad.out hq2.out)
        go_wp2_with fail
        refine (hB _).mono ?_
        rintro e w' ⟨rfl, rfl⟩
        go_wp2
        go_ret
        exact ⟨ret_bool hv.out.symm, rfl⟩
    · obtain rfl : k = no := by omega
      have ht : l.take k = l := List.take_of_length_le (by rw [hl.out]; exact Nat.le_refl _)
      rw [ht] at hok
      have hv : Hid (okSpeeds l = true) := hok
      replace hok := Lib.hid hok
      go_wp2
      go_ret
      exact ⟨ret_bool hv.out.symm, rfl⟩
set_option maxRecDepth 100000 in
set_option maxHeartbeats 2000000 in
theorem Rasked_any (s : Strm) (A O D V : Option Addr) (n c no co nd cd nv cv : Nat) (bs : List Bnd) (l : List Wat) (v : List Int) (w : World) (hs : SlAt w 0 5 Sec.cells A n c s.secs) (hl : SlAt w 0 2 Bnd.cells O no co bs) (hd : SlAt w 0 4 Wat.cells D nd cd l) (hv : SlAt w 0 1 ivs V nv cv v) :
    Calls Tryz.prog 50 #[.agg #[.int .i64 s.head, .slice A n c, .int .i64 s.lane.lo, .int .i64 s.lane.hi, .int .i64 s.bend], .slice O no co, .slice D nd cd, .slice V nv cv] w fun e w' => e = .returned (.int .i64 (errW s bs l v)) ∧ Below w.heap.size w w' := by
  obtain ⟨w1, hw1⟩ : ∃ w1, w1 = w.alloc (.cells #[.int .i64 s.head, .slice A n c, .int .i64 s.lane.lo, .int .i64 s.lane.hi, .int .i64 s.bend] 26) := ⟨_, rfl⟩
  have k4 : Blk w1 w.heap.size 26 #[.int .i64 s.head, .slice A n c, .int .i64 s.lane.lo, .int .i64 s.lane.hi, .int .i64 s.bend] := by rw [hw1]; exact Blk.new _ _ _
  have b : Below w.heap.size w w1 := by rw [hw1]; exact (Below.refl _ _).alloc (Nat.le_refl _) _
  replace hs : SlAt w1 0 5 Sec.cells A n c s.secs := by rw [hw1]; exact hs.alloc _
  replace hl : SlAt w1 0 2 Bnd.cells O no co bs := by rw [hw1]; exact hl.alloc _
  replace hd : SlAt w1 0 4 Wat.cells D nd cd l := by rw [hw1]; exact hd.alloc _
  replace hv : SlAt w1 0 1 ivs V nv cv v := by rw [hw1]; exact hv.alloc _
  have hdl := hd.len
  have hvl := hv.len
  have hdle := hd.le
  have hvle := hv.le
  have hbg := fun W h1 h2 => Rbegun_any s A O n c no co 0 0 bs W h1 h2
  have hwt := fun W h => RWaters_any D nd cd 0 l W h
  have hf := fun W h => Rfast_any V nv cv 0 v W h
  by_cases h1 : errB s bs = 0
  · simp only [h1] at hbg
    by_cases h2 : chkWats l = 0
    · have hbw : errBW s bs l = 0 := by rw [errBW, if_pos h1, h2]
      simp only [h2] at hwt
      by_cases h3 : nv = nd
      · subst h3
        cases hok : okSpeeds v
        · have hres : errW s bs l v = 34 := by
            rw [errW, if_pos hbw]; simp [hok, hvl, hdl]
          rw [hres]
          simp only [hok] at hf
          replace h1 := Lib.hid h1
          replace h2 := Lib.hid h2
          clear hbw hok hres hdl hvl
          go_enter Tryz.func50, Tryz.ntmps50
          go_wp2_with fail
          rw [← hw1]
          clear hw1
          refine (hbg _ hs hl).mono ?_
          rintro e W ⟨rfl, hbel⟩
          replace k4 := k4.below hbel
          replace b := b.trans (hbel.mono b.size)
          replace hs := hs.below hbel
          replace hl := hl.below hbel
          replace hd := hd.below hbel
          replace hv := hv.below hbel
          clear hbel
          go_wp2_with fail
          refine (hwt _ hd).mono ?_
          rintro e W ⟨rfl, hbel⟩
          replace k4 := k4.below hbel
          replace b := b.trans (hbel.mono b.size)
          replace hs := hs.below hbel
          replace hl := hl.below hbel
          replace hd := hd.below hbel
          replace hv := hv.below hbel
          clear hbel
          go_wp2_with fail
          refine (hf _ hv).mono ?_
          rintro e W' ⟨rfl, rfl⟩
          go_wp2
          go_ret
          exact ⟨rfl, b⟩
        · have hres : errW s bs l v = 0 := by
            rw [errW, if_pos hbw]; simp [hok, hvl, hdl]
          rw [hres]
          simp only [hok] at hf
          replace h1 := Lib.hid h1
          replace h2 := Lib.hid h2
          clear hbw hok hres hdl hvl
          go_enter Tryz.func50, Tryz.ntmps50
          go_wp2_with fail
          rw [← hw1]
          clear hw1
          refine (hbg _ hs hl).mono ?_
          rintro e W ⟨rfl, hbel⟩
          replace k4 := k4.below hbel
          replace b := b.trans (hbel.mono b.size)
          replace hs := hs.below hbel
          replace hl := hl.below hbel
          replace hd := hd.below hbel
          replace hv := hv.below hbel
          clear hbel
          go_wp2_with fail
          refine (hwt _ hd).mono ?_
          rintro e W ⟨rfl, hbel⟩
          replace k4 := k4.below hbel
          replace b := b.trans (hbel.mono b.size)
          replace hs := hs.below hbel
          replace hl := hl.below hbel
          replace hd := hd.below hbel
          replace hv := hv.below hbel
          clear hbel
          go_wp2_with fail
          refine (hf _ hv).mono ?_
          rintro e W' ⟨rfl, rfl⟩
          go_wp2
          go_ret
          exact ⟨rfl, b⟩
      · have hres : errW s bs l v = 34 := by
          rw [errW, if_pos hbw, if_neg]
          rintro ⟨h, -⟩
          omega
        rw [hres]
        have h3' : ¬ (nv : Int) = (nd : Int) := by omega
        replace h1 := Lib.hid h1
        replace h2 := Lib.hid h2
        clear hbw hres hdl hvl hf
        go_enter Tryz.func50, Tryz.ntmps50
        go_wp2_with fail
        rw [← hw1]
        clear hw1
        refine (hbg _ hs hl).mono ?_
        rintro e W ⟨rfl, hbel⟩
        replace k4 := k4.below hbel
        replace b := b.trans (hbel.mono b.size)
        replace hs := hs.below hbel
        replace hl := hl.below hbel
        replace hd := hd.below hbel
        replace hv := hv.below hbel
        clear hbel
        go_wp2_with fail
        refine (hwt _ hd).mono ?_
        rintro e W ⟨rfl, hbel⟩
        replace k4 := k4.below hbel
        replace b := b.trans (hbel.mono b.size)
        replace hs := hs.below hbel
        replace hl := hl.below hbel
        replace hd := hd.below hbel
        replace hv := hv.below hbel
        clear hbel
        go_wp2
        go_ret
        exact ⟨rfl, b⟩
    · have hres : errW s bs l v = chkWats l := by
        have hb : errBW s bs l = chkWats l := by rw [errBW, if_pos h1]
        rw [errW, if_neg (by rw [hb]; exact h2), hb]
      rw [hres]
      generalize chkWats l = er at *
      have h2' : (er != 0) = true := by rw [bne_iff_ne]; exact h2
      replace h1 := Lib.hid h1
      replace h2 := Lib.hid h2
      clear hres hdl hvl hf
      go_enter Tryz.func50, Tryz.ntmps50
      go_wp2_with fail
      rw [← hw1]
      clear hw1
      refine (hbg _ hs hl).mono ?_
      rintro e W ⟨rfl, hbel⟩
      replace k4 := k4.below hbel
      replace b := b.trans (hbel.mono b.size)
      replace hs := hs.below hbel
      replace hl := hl.below hbel
      replace hd := hd.below hbel
      replace hv := hv.below hbel
      clear hbel
      go_wp2_with fail
      refine (hwt _ hd).mono ?_
      rintro e W ⟨rfl, hbel⟩
      replace k4 := k4.below hbel
      replace b := b.trans (hbel.mono b.size)
      replace hs := hs.below hbel
      replace hl := hl.below hbel
      replace hd := hd.below hbel
      replace hv := hv.below hbel
      clear hbel
      go_wp2
      go_ret
      exact ⟨rfl, b⟩
  · have hres : errW s bs l v = errB s bs := by
      have hb : errBW s bs l = errB s bs := by rw [errBW, if_neg h1]
      rw [errW, if_neg (by rw [hb]; exact h1), hb]
    rw [hres]
    generalize errB s bs = er at *
    have h1' : (er != 0) = true := by rw [bne_iff_ne]; exact h1
    replace h1 := Lib.hid h1
    clear hres hdl hvl hf hwt
    go_enter Tryz.func50, Tryz.ntmps50
    go_wp2_with fail
    rw [← hw1]
    clear hw1
    refine (hbg _ hs hl).mono ?_
    rintro e W ⟨rfl, hbel⟩
    replace k4 := k4.below hbel
    replace b := b.trans (hbel.mono b.size)
    replace hs := hs.below hbel
    replace hl := hl.below hbel
    replace hd := hd.below hbel
    replace hv := hv.below hbel
    clear hbel
    go_wp2
    go_ret
    exact ⟨rfl, b⟩
def bentTo (s : Strm) (bs : List Bnd) (k : Nat) : Bool := ((bendL s bs).take k).any fun x => decide (s.bend < x.hi)
def pulledTo (s : Strm) (bs : List Bnd) (v : Int) (cur : Bnd) (k : Nat) : Bool := (List.range k).any fun i => decide ((s.sec i).cap < ((pullL s bs v cur).getD i ⟨0, 0⟩).hi)
theorem bentTo_succ {s : Strm} {bs : List Bnd} {k : Nat} {x : Bnd} (h : (bendL s bs)[k]? = some x) : bentTo s bs (k + 1) = (bentTo s bs k || decide (s.bend < x.hi)) := by
  unfold bentTo; rw [List.take_add_one, h]; simp
theorem pulledTo_succ {s : Strm} {bs : List Bnd} {v : Int} {cur : Bnd} {k : Nat} {y : Bnd} (h : (pullL s bs v cur)[k]? = some y) : pulledTo s bs v cur (k + 1) = (pulledTo s bs v cur k || decide ((s.sec k).cap < y.hi)) := by
  have e : (pullL s bs v cur).getD k ⟨0, 0⟩ = y := by rw [List.getD_eq_getElem?_getD, h]; rfl
  unfold pulledTo; rw [List.range_succ, List.any_append, ← e]; simp
set_option maxRecDepth 100000 in
set_option maxHeartbeats 4000000 in
theorem Rstrained_any (s : Strm) (A O : Option Addr) (n c co : Nat) (l : List Bnd) (v : Int) (cur : Bnd) (w : World) (ho : okStrm s = true) (hl : okOffs s l = true) (hv : okSpeed v = true) (hc : okBnd 50 cur = true) (hss : SlAt w 0 5 Sec.cells A n c s.secs) (hs : SlAt w 0 2 Bnd.cells O n co l) :
    Calls Tryz.prog 104 #[.agg #[.int .i64 s.head, .slice A n c, .int .i64 s.lane.lo, .int .i64 s.lane.hi, .int .i64 s.bend], .slice O n co, .int .i64 v, .agg #[.int .i64 cur.lo, .int .i64 cur.hi]] w fun e w' => e = .returned (.tuple #[.bool (bentS s l), .bool (pulledS s l v cur)]) ∧ Below w.heap.size w w' := by
  have hln := Lib.hid hs.len
  have hsl := Lib.hid hss.len
  have hn8 : n ≤ 8 := by have := ok_head ho; unfold headOk at this; have := hss.len; omega
  have hbe := fun W (hW : Below w.heap.size w W) => Rbends_any s A O n c co 0 l W ho hl (hs.below hW)
  have hpu := fun W (hW : Below w.heap.size w W) => Rpulls_any s A O n c co 0 0 l v cur W ho hl hv hc (hss.below hW) (hs.below hW)
  have hB1 : Hid (bentTo s l n = bentS s l) := by show _ = _; unfold bentTo bentS; rw [List.take_of_length_le (by unfold bendL; rw [eachL_length, hln.out]; exact Nat.le_refl _)]
  have hP1 : Hid (pulledTo s l v cur n = pulledS s l v cur) := by show _ = _; unfold pulledTo pulledS; rw [hln.out]
  have hbl : Hid ((bendL s l).length = n) := by show _ = _; unfold bendL; rw [eachL_length, hln.out]
  have hpl : Hid ((pullL s l v cur).length = n) := by show _ = _; rw [pullL_len, hln.out]
  have hbs := fun k x h => bentTo_succ (s := s) (bs := l) (k := k) (x := x) h
  have hps := fun k y h => pulledTo_succ (s := s) (bs := l) (v := v) (cur := cur) (k := k) (y := y) h
  replace hbs := Lib.hid hbs
  replace hps := Lib.hid hps
  have hB0 : Hid (bentTo s l 0 = false) := rfl
  have hP0 : Hid (pulledTo s l v cur 0 = false) := rfl
  rw [← hB1.out, ← hP1.out]
  clear hB1 hP1
  generalize hbd : bendL s l = bd at *
  generalize hpd : pullL s l v cur = pd at *
  replace hbd := Lib.hid hbd
  replace hpd := Lib.hid hpd
  obtain ⟨w1, hw1⟩ : ∃ w1, w1 = (w.alloc (.cells #[.int .i64 s.head, .slice A n c, .int .i64 s.lane.lo, .int .i64 s.lane.hi, .int .i64 s.bend] 26)).alloc (.cells #[.int .i64 cur.lo, .int .i64 cur.hi] 24) := ⟨_, rfl⟩
  have k4 : Blk w1 w.heap.size 26 #[.int .i64 s.head, .slice A n c, .int .i64 s.lane.lo, .int .i64 s.lane.hi, .int .i64 s.bend] := by rw [hw1]; exact (Blk.new _ _ _).alloc _
  have k7 : Blk w1 (w.heap.size + 1) 24 #[.int .i64 cur.lo, .int .i64 cur.hi] := by rw [hw1]; exact Blk.newAt (by simp)
  have b1 : Below w.heap.size w w1 := by rw [hw1]; exact ((Below.refl _ _).alloc (Nat.le_refl _) _).alloc (by simp) _
  go_enter Tryz.func104, Tryz.ntmps104
  go_wp2_with fail
  rw [← hw1]
  clear hw1 hv hc hl
  refine wp_held_np (fun w' : World => (∀ j, w'.cell? ⟨w.heap.size, j, none⟩ = #[Value.int .i64 s.head, .slice A n c, .int .i64 s.lane.lo, .int .i64 s.lane.hi, .int .i64 s.bend][j]?) ∧ (∀ j, w'.cell? ⟨w.heap.size + 1, j, none⟩ = #[Value.int .i64 cur.lo, .int .i64 cur.hi][j]?)) (by kernel_rfl) ?_
  replace k4 := k4.drew
  replace k7 := k7.drew
  replace b1 := b1.drew
  generalize w1.drew = w2 at *
  have hS : (fun w' : World => (∀ j, w'.cell? ⟨w.heap.size, j, none⟩ = #[Value.int .i64 s.head, .slice A n c, .int .i64 s.lane.lo, .int .i64 s.lane.hi, .int .i64 s.bend][j]?) ∧ (∀ j, w'.cell? ⟨w.heap.size + 1, j, none⟩ = #[Value.int .i64 cur.lo, .int .i64 cur.hi][j]?)) w2 := ⟨k4.cell, k7.cell⟩
  refine held_take (i := 0) (v := ?_) 15 rfl rfl (by kernel_rfl) (by kernel_rfl) (by kernel_rfl) (fun _ _ _ h => h) (Or.inl ⟨by rfl, ?_⟩) hS ?_
  rotate_left 1
  · intro w' hSw
    try dsimp only at hSw
    obtain ⟨q1, q2⟩ := hSw
    go_simp
    all_goals with_reducible rfl
  try simp only [Act.put, List.setIfInBounds_toArray, List.set_cons_zero, List.set_cons_succ]
  refine held_take (i := 1) (v := ?_) 16 rfl rfl (by kernel_rfl) (by kernel_rfl) (by kernel_rfl) (fun _ _ _ h => h) (Or.inl ⟨by rfl, ?_⟩) hS ?_
  rotate_left 1
  · intro w' hSw
    try dsimp only at hSw
    obtain ⟨q1, q2⟩ := hSw
    go_simp
    all_goals with_reducible rfl
  try simp only [Act.put, List.setIfInBounds_toArray, List.set_cons_zero, List.set_cons_succ]
  refine held_take (i := 3) (v := ?_) 18 rfl rfl (by kernel_rfl) (by kernel_rfl) (by kernel_rfl) (fun _ _ _ h => h) (Or.inl ⟨by rfl, ?_⟩) hS ?_
  rotate_left 1
  · intro w' hSw
    try dsimp only at hSw
    obtain ⟨q1, q2⟩ := hSw
    go_simp
    all_goals with_reducible rfl
  try simp only [Act.put, List.setIfInBounds_toArray, List.set_cons_zero, List.set_cons_succ]
  refine held_take (i := 4) (v := ?_) 19 rfl rfl (by kernel_rfl) (by kernel_rfl) (by kernel_rfl) (fun _ _ _ h => h) (Or.inl ⟨by rfl, ?_⟩) hS ?_
  rotate_left 1
  · intro w' hSw
    try dsimp only at hSw
    obtain ⟨q1, q2⟩ := hSw
    go_simp
    all_goals with_reducible rfl
  try simp only [Act.put, List.setIfInBounds_toArray, List.set_cons_zero, List.set_cons_succ]
  refine held_take (i := 5) (v := ?_) 20 rfl rfl (by kernel_rfl) (by kernel_rfl) (by kernel_rfl) (fun _ _ _ h => h) (Or.inl ⟨by rfl, ?_⟩) hS ?_
  rotate_left 1
  · intro w' hSw
    try dsimp only at hSw
    obtain ⟨q1, q2⟩ := hSw
    go_simp
    all_goals with_reducible rfl
  try simp only [Act.put, List.setIfInBounds_toArray, List.set_cons_zero, List.set_cons_succ]
  refine held_take (i := 6) (v := ?_) 21 rfl rfl (by kernel_rfl) (by kernel_rfl) (by kernel_rfl) (fun _ _ _ h => h) (Or.inl ⟨by rfl, ?_⟩) hS ?_
  rotate_left 1
  · intro w' hSw
    try dsimp only at hSw
    obtain ⟨q1, q2⟩ := hSw
    go_simp
    all_goals with_reducible rfl
  try simp only [Act.put, List.setIfInBounds_toArray, List.set_cons_zero, List.set_cons_succ]
  refine held_one (i := 2) (by kernel_rfl) rfl rfl (fun K hK => ?_)
  go_simp
  refine (hbe _ b1).mono ?_
  rintro e W ⟨P2, pc2, rfl, hp2, hb1⟩
  clear hS
  replace k4 := k4.below hb1
  replace k7 := k7.below hb1
  skip
  replace b1 := b1.trans (hb1.mono b1.size)
  clear hb1
  have hS : (fun w' : World => (∀ j, w'.cell? ⟨w.heap.size, j, none⟩ = #[Value.int .i64 s.head, .slice A n c, .int .i64 s.lane.lo, .int .i64 s.lane.hi, .int .i64 s.bend][j]?) ∧ (∀ j, w'.cell? ⟨w.heap.size + 1, j, none⟩ = #[Value.int .i64 cur.lo, .int .i64 cur.hi][j]?)) W := ⟨k4.cell, k7.cell⟩
  refine hK _ _ hS ?_
  clear hK K
  try simp only [Act.put, List.setIfInBounds_toArray, List.set_cons_zero, List.set_cons_succ]
  refine held_one (i := 7) (by kernel_rfl) rfl rfl (fun K hK => ?_)
  go_simp
  refine (hpu _ b1).mono ?_
  rintro e W ⟨P7, pc7, rfl, hp7, hb1⟩
  clear hS
  replace k4 := k4.below hb1
  replace k7 := k7.below hb1
  replace hp2 := hp2.below hb1
  replace b1 := b1.trans (hb1.mono b1.size)
  clear hb1
  have hS : (fun w' : World => (∀ j, w'.cell? ⟨w.heap.size, j, none⟩ = #[Value.int .i64 s.head, .slice A n c, .int .i64 s.lane.lo, .int .i64 s.lane.hi, .int .i64 s.bend][j]?) ∧ (∀ j, w'.cell? ⟨w.heap.size + 1, j, none⟩ = #[Value.int .i64 cur.lo, .int .i64 cur.hi][j]?)) W := ⟨k4.cell, k7.cell⟩
  refine hK _ _ hS ?_
  clear hK K
  try simp only [Act.put, List.setIfInBounds_toArray, List.set_cons_zero, List.set_cons_succ]
  refine held_take (i := 8) (v := ?_) 10 rfl rfl (by kernel_rfl) (by kernel_rfl) (by kernel_rfl) (fun _ _ _ h => h) (Or.inl ⟨by rfl, ?_⟩) hS ?_
  rotate_left 1
  · intro w' hSw
    try dsimp only at hSw
    obtain ⟨q1, q2⟩ := hSw
    go_simp
    all_goals with_reducible rfl
  try simp only [Act.put, List.setIfInBounds_toArray, List.set_cons_zero, List.set_cons_succ]
  refine held_take (i := 9) (v := ?_) 11 rfl rfl (by kernel_rfl) (by kernel_rfl) (by kernel_rfl) (fun _ _ _ h => h) (Or.inl ⟨by rfl, ?_⟩) hS ?_
  rotate_left 1
  · intro w' hSw
    try dsimp only at hSw
    obtain ⟨q1, q2⟩ := hSw
    go_simp
    all_goals with_reducible rfl
  try simp only [Act.put, List.setIfInBounds_toArray, List.set_cons_zero, List.set_cons_succ]
  refine wpAnyH_done (by kernel_rfl) (noPanic_normal ?_) _
  clear hS hbe hpu k7
  have hss1 := hss.below b1
  replace hp2 := hp2.mono (Nat.zero_le _)
  replace hp7 := hp7.mono (Nat.zero_le _)
  clear hss hs
  go_wp2_with fail
  go_loopw [12, 13, 14] (fun p q i wr => ∃ k : Nat, i = .int .i64 k ∧ k ≤ n ∧ p = .bool (bentTo s l k) ∧ q = .bool (pulledTo s l v cur k) ∧ Below W.heap.size W wr) (fun p q i wr => n - (intOf i).toNat)
  case atStart => exact ⟨0, rfl, Nat.zero_le _, by rw [hB0.out], by rw [hP0.out], Below.refl _ _⟩
  case round =>
    obtain ⟨k, rfl, hk, rfl, rfl, hb⟩ := hrel
    by_cases hlt : k < n
    · obtain ⟨x, hx⟩ := some_of_lt hbl.out hlt
      obtain ⟨y, hy⟩ := some_of_lt hpl.out hlt
      have hbt := Lib.hid (hbs.out k x hx)
      have hpt := Lib.hid (hps.out k y hy)
      obtain ⟨bX, oX, hA, -, hbX, -, x1⟩ := hp2.bnd hx
      obtain ⟨bY, oY, hC, -, hbY, -, y1⟩ := hp7.bnd hy
      obtain ⟨bS, oS, hD, -, hbS, -, -, -, -, g4⟩ := hss1.sec (sec_at s (i := k) (by rw [hsl.out]; exact hlt))
      have y1s := Lib.hid y1
      have g4s := Lib.hid g4
      replace x1 := (hb.cell (p := ⟨bX, oX + k * 2 + 1, none⟩) hbX).trans x1
      clear y1 g4
      have y1 := True.intro
      have g4 := True.intro
      have k4w := k4.below hb
      generalize (s.sec k).cap = cp at *
      replace hx := Lib.hid hx
      replace hy := Lib.hid hy
      subst hA
      subst hC
      subst hD
      have hk0 : (0 : Int) ≤ (k : Int) := by omega
      have hk1 : (k : Int) < (n : Int) := by omega
      obtain ⟨c4, f4, l4⟩ := k4w.rules
      cases hq1 : bentTo s l k with
      | false =>
        replace hq1 := Lib.hid hq1
        cases hq2 : pulledTo s l v cur k with
        | false =>
          replace hq2 := Lib.hid hq2
          go_wp2_with fail
          go_quiet (fail)
          replace hb := below_drewN hb nq
          replace g4 := (hb.cell (p := ⟨bS, oS + k * 5 + 4, none⟩) hbS).trans g4s.out
          replace y1 := (hb.cell (p := ⟨bY, oY + k * 2 + 1, none⟩) hbY).trans y1s.out
          have k4x := k4.below hb
          clear c4 f4 l4
          obtain ⟨c4, f4, l4⟩ := k4x.rules
          generalize wr.drewN nq = wq at *
          go_wp2_with fail
          go_quiet (fail)
          replace hb := below_drewN hb nq
          clear c4 f4 l4 k4x
          go_wp2
          go_roundw
          case rel => exact ⟨k + 1, by go_num, by omega, by rw [hbt.out, hq1.out]; first | rfl | simp, by rw [hpt.out, hq2.out]; first | rfl | simp, hb⟩
          case measure => simp [intOf]; omega
        | true =>
          replace hq2 := Lib.hid hq2
          go_wp2_with fail
          go_quiet (fail)
          replace hb := below_drewN hb nq
          replace g4 := (hb.cell (p := ⟨bS, oS + k * 5 + 4, none⟩) hbS).trans g4s.out
          replace y1 := (hb.cell (p := ⟨bY, oY + k * 2 + 1, none⟩) hbY).trans y1s.out
          have k4x := k4.below hb
          clear c4 f4 l4
          obtain ⟨c4, f4, l4⟩ := k4x.rules
          generalize wr.drewN nq = wq at *
          go_wp2_with fail
          go_quiet (fail)
          replace hb := below_drewN hb nq
          clear c4 f4 l4 k4x
          go_wp2
          go_roundw
          case rel => exact ⟨k + 1, by go_num, by omega, by rw [hbt.out, hq1.out]; first | rfl | simp, by rw [hpt.out, hq2.out]; first | rfl | simp, hb⟩
          case measure => simp [intOf]; omega
      | true =>
        replace hq1 := Lib.hid hq1
        cases hq2 : pulledTo s l v cur k with
        | false =>
          replace hq2 := Lib.hid hq2
          go_wp2_with fail
          go_quiet (fail)
          replace hb := below_drewN hb nq
          replace g4 := (hb.cell (p := ⟨bS, oS + k * 5 + 4, none⟩) hbS).trans g4s.out
          replace y1 := (hb.cell (p := ⟨bY, oY + k * 2 + 1, none⟩) hbY).trans y1s.out
          have k4x := k4.below hb
          clear c4 f4 l4
          obtain ⟨c4, f4, l4⟩ := k4x.rules
          generalize wr.drewN nq = wq at *
          go_wp2_with fail
          go_quiet (fail)
          replace hb := below_drewN hb nq
          clear c4 f4 l4 k4x
          go_wp2
          go_roundw
          case rel => exact ⟨k + 1, by go_num, by omega, by rw [hbt.out, hq1.out]; first | rfl | simp, by rw [hpt.out, hq2.out]; first | rfl | simp, hb⟩
          case measure => simp [intOf]; omega
        | true =>
          replace hq2 := Lib.hid hq2
          go_wp2_with fail
          go_quiet (fail)
          replace hb := below_drewN hb nq
          replace g4 := (hb.cell (p := ⟨bS, oS + k * 5 + 4, none⟩) hbS).trans g4s.out
          replace y1 := (hb.cell (p := ⟨bY, oY + k * 2 + 1, none⟩) hbY).trans y1s.out
          have k4x := k4.below hb
          clear c4 f4 l4
          obtain ⟨c4, f4, l4⟩ := k4x.rules
          generalize wr.drewN nq = wq at *
          go_wp2_with fail
          go_quiet (fail)
          replace hb := below_drewN hb nq
          clear c4 f4 l4 k4x
          go_wp2
          go_roundw
          case rel => exact ⟨k + 1, by go_num, by omega, by rw [hbt.out, hq1.out]; first | rfl | simp, by rw [hpt.out, hq2.out]; first | rfl | simp, hb⟩
          case measure => simp [intOf]; omega
    · obtain rfl : k = n := by omega
      go_wp2
      go_ret2
      exact ⟨rfl, b1.trans (hb.mono b1.size)⟩
set_option maxRecDepth 100000 in
set_option maxHeartbeats 4000000 in
theorem Rwatch_any (s : Strm) (A O D V : Option Addr) (n c co nd cd cv : Nat) (bs : List Bnd) (l : List Wat) (v : List Int) (w : World) (ho : okStrm s = true) (hb0 : okOffs s bs = true) (hwl : l.all okWat = true) (hvs : okSpeeds v = true) (hnd : nd ≤ 48) (hs : SlAt w 0 5 Sec.cells A n c s.secs) (hl : SlAt w 0 2 Bnd.cells O n co bs) (hd : SlAt w 0 4 Wat.cells D nd cd l) (hv : SlAt w 0 1 ivs V nd cv v) :
    Calls Tryz.prog 51 #[.agg #[.int .i64 s.head, .slice A n c, .int .i64 s.lane.lo, .int .i64 s.lane.hi, .int .i64 s.bend], .slice O n co, .slice D nd cd, .slice V nd cv] w fun e w' => e = .returned (.agg #[.int .i64 (strainS s bs l v nd).1, .int .i64 (strainS s bs l v nd).2]) ∧ Below w.heap.size w w' := by
  have hdl := Lib.hid hd.len
  have hvl := Lib.hid hv.len
  have hll := Lib.hid hl.len
  have hsl := Lib.hid hs.len
  have hn8 : n ≤ 8 := by have := ok_head ho; unfold headOk at this; have := hs.len; omega
  have hres : (strainS s bs l v nd) = (fstN (bentN s bs l) nd, fstN (pulledN s bs l v) nd) := rfl
  rw [hres]
  clear hres
  have hok := Lib.hid (fun k => encAt_ok ho hb0 hwl k)
  have hlk := Lib.hid (fun k => show (encAt s bs l k).length = bs.length from encAt_len rfl k)
  obtain ⟨fb, hfb⟩ : ∃ fb, fb = fstN (bentN s bs l) := ⟨_, rfl⟩
  obtain ⟨fp, hfp⟩ : ∃ fp, fp = fstN (pulledN s bs l v) := ⟨_, rfl⟩
  have hfbs := Lib.hid (fun k => show fb (k + 1) = if 0 ≤ fb k then fb k else if bentN s bs l k = true then (k : Int) else -1 by rw [hfb]; rfl)
  have hfps := Lib.hid (fun k => show fp (k + 1) = if 0 ≤ fp k then fp k else if pulledN s bs l v k = true then (k : Int) else -1 by rw [hfp]; rfl)
  have hfb0 : fb 0 = -1 := by rw [hfb]; rfl
  have hfp0 : fp 0 = -1 := by rw [hfp]; rfl
  have hfbb := Lib.hid (fun k => show -1 ≤ fb k ∧ fb k < k by rw [hfb]; exact fstN_bd _ k)
  have hfpb := Lib.hid (fun k => show -1 ≤ fp k ∧ fp k < k by rw [hfp]; exact fstN_bd _ k)
  rw [← hfb, ← hfp]
  clear hfb hfp
  replace ho := Lib.hid ho
  replace hb0 := Lib.hid hb0
  replace hwl := Lib.hid hwl
  replace hvs := Lib.hid hvs
  replace hfb0 := Lib.hid hfb0
  replace hfp0 := Lib.hid hfp0
  obtain ⟨w1, hw1⟩ : ∃ w1, w1 = ((w.alloc (.cells #[.int .i64 s.head, .slice A n c, .int .i64 s.lane.lo, .int .i64 s.lane.hi, .int .i64 s.bend] 26)).alloc (.cells #[.int .i64 0, .int .i64 0] 35)).alloc (.cells #[.int .i64 (-1), .int .i64 (-1)] 35) := ⟨_, rfl⟩
  have k4 : Blk w1 w.heap.size 26 #[.int .i64 s.head, .slice A n c, .int .i64 s.lane.lo, .int .i64 s.lane.hi, .int .i64 s.bend] := by rw [hw1]; exact ((Blk.new _ _ _).alloc _).alloc _
  have k8 : Blk w1 (w.heap.size + 1) 35 #[.int .i64 0, .int .i64 0] := by rw [hw1]; exact (Blk.newAt (by simp)).alloc _
  have k9 : Blk w1 (w.heap.size + 1 + 1) 35 #[.int .i64 (-1), .int .i64 (-1)] := by rw [hw1]; exact Blk.newAt (by simp)
  have b : Below w.heap.size w w1 := by rw [hw1]; exact (((Below.refl _ _).alloc (Nat.le_refl _) _).alloc (by simp) _).alloc (by simp; omega) _
  have hl1 : SlAt w1 0 2 Bnd.cells O n co bs := by rw [hw1]; exact ((hl.alloc _).alloc _).alloc _
  have hs0 := hs
  have hd0 := hd
  have hv0 := hv
  clear hs hl hd hv
  go_enter Tryz.func51, Tryz.ntmps51
  go_wp2_with fail
  rw [← hw1]
  clear hw1
  go_loopw [1, 10] (fun p i wr => ∃ (k : Nat) (P : Option Addr) (m : Nat), i = .int .i64 k ∧ k ≤ nd ∧ p = .slice P n m ∧ SlAt wr 0 2 Bnd.cells P n m (encAt s bs l k) ∧ Blk wr w.heap.size 26 #[.int .i64 s.head, .slice A n c, .int .i64 s.lane.lo, .int .i64 s.lane.hi, .int .i64 s.bend] ∧ Blk wr (w.heap.size + 1) 35 #[.int .i64 0, .int .i64 0] ∧ Blk wr (w.heap.size + 1 + 1) 35 #[.int .i64 (fb k), .int .i64 (fp k)] ∧ Below w.heap.size w wr) (fun p i wr => nd - (intOf i).toNat)
  case atStart => exact ⟨0, O, co, rfl, Nat.zero_le _, rfl, hl1, k4, k8, by rw [hfb0.out, hfp0.out]; exact k9, b⟩
  case round =>
    clear k4 k8 k9 b hl1
    obtain ⟨k, P, m, rfl, hk, rfl, hr, k4, k8, k9, b⟩ := hrel
    have hs := hs0.below b
    have hd := hd0.below b
    have hv := hv0.below b
    by_cases hlt : k < nd
    · obtain ⟨x, hx⟩ := some_of_lt hdl.out hlt
      obtain ⟨y, hy⟩ := some_of_lt hvl.out hlt
      have hxd : l.getD k wat0 = x := by rw [List.getD_eq_getElem?_getD, hx]; rfl
      have hyd : v.getD k 0 = y := by rw [List.getD_eq_getElem?_getD, hy]; rfl
      have hxo := okWat_get hwl.out k
      rw [hxd] at hxo
      have hso := List.all_eq_true.1 hvs.out y (List.mem_of_getElem? hy)
      obtain ⟨bw, ow, hA, -, hbw, z0, z1, z2, z3⟩ := hd.wat hx
      obtain ⟨bv, ov, hV, -, hbv, y0⟩ := hv.int hy
      have hen := fun W h1 h2 => Renclose_any s A P n c m 0 0 (encAt s bs l k) x.acr W ho.out (hok.out k) hxo.1 h1 h2
      have e1 : encL s (encAt s bs l k) x.acr = encAt s bs l (k + 1) := by rw [← hxd]; rfl
      simp only [e1] at hen
      have hst := fun W P1 m1 h1 h2 => Rstrained_any s A P1 n c m1 (encAt s bs l (k + 1)) y x.alo W ho.out (hok.out (k + 1)) hso hxo.2 h1 h2
      have hb1 : bentS s (encAt s bs l (k + 1)) = bentN s bs l k := rfl
      have hp1 : pulledS s (encAt s bs l (k + 1)) y x.alo = pulledN s bs l v k := by unfold pulledN; rw [hyd, hxd]
      simp only [hb1, hp1] at hst
      have hfs := Lib.hid (hfbs.out k)
      have hps := Lib.hid (hfps.out k)
      obtain ⟨fb1, fb2⟩ := hfbb.out k
      obtain ⟨fp1, fp2⟩ := hfpb.out k
      obtain ⟨bn, hbn⟩ : ∃ bn, bentN s bs l k = bn := ⟨_, rfl⟩
      obtain ⟨pn, hpn⟩ : ∃ pn, pulledN s bs l v k = pn := ⟨_, rfl⟩
      simp only [hbn, hpn] at hst
      rw [hbn] at hfs
      rw [hpn] at hps
      replace hx := Lib.hid hx
      replace hy := Lib.hid hy
      replace hst := Lib.hid hst
      generalize hbs2 : encAt s bs l (k + 1) = bs' at *
      replace hbs2 := Lib.hid hbs2
      clear e1 hb1 hp1 hxo hso hxd hyd hbn hpn
      subst hA
      subst hV
      have hk0 : (0 : Int) ≤ (k : Int) := by omega
      have hk1 : (k : Int) < (nd : Int) := by omega
      go_wp2_with fail
      refine wp_held_np (fun w' : World => (∀ j, w'.cell? ⟨w.heap.size, j, none⟩ = #[Value.int .i64 s.head, .slice A n c, .int .i64 s.lane.lo, .int .i64 s.lane.hi, .int .i64 s.bend][j]?) ∧ w'.cell? ⟨bw, ow + k * 4, none⟩ = some (.int .i64 x.acr.lo) ∧ w'.cell? ⟨bw, ow + k * 4 + 1, none⟩ = some (.int .i64 x.acr.hi)) (by kernel_rfl) ?_
      have hbel : Below wr.heap.size wr wr.drew := (Below.refl _ _).drew
      replace k4 := k4.below hbel
      replace k8 := k8.below hbel
      replace k9 := k9.below hbel
      replace b := b.trans (hbel.mono b.size)
      replace hs := hs.below hbel
      replace hd := hd.below hbel
      replace hv := hv.below hbel
      replace hr := hr.below hbel
      replace z0 := (hbel.cell (p := ⟨bw, ow + k * 4, none⟩) hbw).trans z0
      replace z1 := (hbel.cell (p := ⟨bw, ow + k * 4 + 1, none⟩) hbw).trans z1
      replace z2 := (hbel.cell (p := ⟨bw, ow + k * 4 + 2, none⟩) hbw).trans z2
      replace z3 := (hbel.cell (p := ⟨bw, ow + k * 4 + 3, none⟩) hbw).trans z3
      replace y0 := (hbel.cell (p := ⟨bv, ov + k, none⟩) hbv).trans y0
      replace hbw := Nat.lt_of_lt_of_le hbw hbel.size
      replace hbv := Nat.lt_of_lt_of_le hbv hbel.size
      clear hbel
      generalize wr.drew = wd at *
      have hS : (fun w' : World => (∀ j, w'.cell? ⟨w.heap.size, j, none⟩ = #[Value.int .i64 s.head, .slice A n c, .int .i64 s.lane.lo, .int .i64 s.lane.hi, .int .i64 s.bend][j]?) ∧ w'.cell? ⟨bw, ow + k * 4, none⟩ = some (.int .i64 x.acr.lo) ∧ w'.cell? ⟨bw, ow + k * 4 + 1, none⟩ = some (.int .i64 x.acr.hi)) wd := ⟨k4.cell, z0, z1⟩
      refine held_take (i := 0) (v := ?_) 20 rfl rfl (by kernel_rfl) (by kernel_rfl) (by kernel_rfl) (fun _ _ _ h => h) (Or.inl ⟨by rfl, ?_⟩) hS ?_
      rotate_left 1
      · intro w' hSw
        try dsimp only at hSw
        obtain ⟨q1, q2, q3⟩ := hSw
        go_simp
        all_goals with_reducible rfl
      try simp only [Act.put, List.setIfInBounds_toArray, List.set_cons_zero, List.set_cons_succ]
      refine held_take (i := 1) (v := ?_) 21 rfl rfl (by kernel_rfl) (by kernel_rfl) (by kernel_rfl) (fun _ _ _ h => h) (Or.inl ⟨by rfl, ?_⟩) hS ?_
      rotate_left 1
      · intro w' hSw
        try dsimp only at hSw
        obtain ⟨q1, q2, q3⟩ := hSw
        go_simp
        all_goals with_reducible rfl
      try simp only [Act.put, List.setIfInBounds_toArray, List.set_cons_zero, List.set_cons_succ]
      refine held_take (i := 2) (v := ?_) 22 rfl rfl (by kernel_rfl) (by kernel_rfl) (by kernel_rfl) (fun _ _ _ h => h) (Or.inl ⟨by rfl, ?_⟩) hS ?_
      rotate_left 1
      · intro w' hSw
        try dsimp only at hSw
        obtain ⟨q1, q2, q3⟩ := hSw
        go_simp
        all_goals with_reducible rfl
      try simp only [Act.put, List.setIfInBounds_toArray, List.set_cons_zero, List.set_cons_succ]
      refine held_take (i := 3) (v := ?_) 23 rfl rfl (by kernel_rfl) (by kernel_rfl) (by kernel_rfl) (fun _ _ _ h => h) (Or.inl ⟨by rfl, ?_⟩) hS ?_
      rotate_left 1
      · intro w' hSw
        try dsimp only at hSw
        obtain ⟨q1, q2, q3⟩ := hSw
        go_simp
        all_goals with_reducible rfl
      try simp only [Act.put, List.setIfInBounds_toArray, List.set_cons_zero, List.set_cons_succ]
      refine held_take (i := 4) (v := ?_) 24 rfl rfl (by kernel_rfl) (by kernel_rfl) (by kernel_rfl) (fun _ _ _ h => h) (Or.inl ⟨by rfl, ?_⟩) hS ?_
      rotate_left 1
      · intro w' hSw
        try dsimp only at hSw
        obtain ⟨q1, q2, q3⟩ := hSw
        go_simp
        all_goals with_reducible rfl
      try simp only [Act.put, List.setIfInBounds_toArray, List.set_cons_zero, List.set_cons_succ]
      refine held_take (i := 5) (v := ?_) 25 rfl rfl (by kernel_rfl) (by kernel_rfl) (by kernel_rfl) (fun _ _ _ h => h) (Or.inl ⟨by rfl, ?_⟩) hS ?_
      rotate_left 1
      · intro w' hSw
        try dsimp only at hSw
        obtain ⟨q1, q2, q3⟩ := hSw
        go_simp
        all_goals with_reducible rfl
      try simp only [Act.put, List.setIfInBounds_toArray, List.set_cons_zero, List.set_cons_succ]
      refine held_take (i := 6) (v := ?_) 26 rfl rfl (by kernel_rfl) (by kernel_rfl) (by kernel_rfl) (fun _ _ _ h => h) (Or.inl ⟨by rfl, ?_⟩) hS ?_
      rotate_left 1
      · intro w' hSw
        try dsimp only at hSw
        obtain ⟨q1, q2, q3⟩ := hSw
        go_simp
        all_goals with_reducible rfl
      try simp only [Act.put, List.setIfInBounds_toArray, List.set_cons_zero, List.set_cons_succ]
      refine held_one (i := 7) (by kernel_rfl) rfl rfl (fun K hK => ?_)
      go_simp
      have hszd : w.heap.size + 1 + 1 + 1 ≤ wd.heap.size := k9.lt
      refine (hen _ hs hr).mono ?_
      rintro e W1 ⟨P1, m1, rfl, hr1, hbel⟩
      clear hS hen
      replace k4 := k4.below hbel
      replace k8 := k8.below hbel
      replace k9 := k9.below hbel
      replace b := b.trans (hbel.mono b.size)
      replace hs := hs.below hbel
      replace hd := hd.below hbel
      replace hv := hv.below hbel
      replace hr := hr.below hbel
      replace z0 := (hbel.cell (p := ⟨bw, ow + k * 4, none⟩) hbw).trans z0
      replace z1 := (hbel.cell (p := ⟨bw, ow + k * 4 + 1, none⟩) hbw).trans z1
      replace z2 := (hbel.cell (p := ⟨bw, ow + k * 4 + 2, none⟩) hbw).trans z2
      replace z3 := (hbel.cell (p := ⟨bw, ow + k * 4 + 3, none⟩) hbw).trans z3
      replace y0 := (hbel.cell (p := ⟨bv, ov + k, none⟩) hbv).trans y0
      replace hbw := Nat.lt_of_lt_of_le hbw hbel.size
      replace hbv := Nat.lt_of_lt_of_le hbv hbel.size
      clear hbel
      replace hr1 := hr1.mono hszd
      have hS : (fun w' : World => (∀ j, w'.cell? ⟨w.heap.size, j, none⟩ = #[Value.int .i64 s.head, .slice A n c, .int .i64 s.lane.lo, .int .i64 s.lane.hi, .int .i64 s.bend][j]?) ∧ w'.cell? ⟨bw, ow + k * 4, none⟩ = some (.int .i64 x.acr.lo) ∧ w'.cell? ⟨bw, ow + k * 4 + 1, none⟩ = some (.int .i64 x.acr.hi)) W1 := ⟨k4.cell, z0, z1⟩
      refine hK _ _ hS ?_
      clear hK K
      try simp only [Act.put, List.setIfInBounds_toArray, List.set_cons_zero, List.set_cons_succ]
      refine held_take (i := 8) (v := ?_) 1 rfl rfl (by kernel_rfl) (by kernel_rfl) (by kernel_rfl) (fun _ _ _ h => h) (Or.inl ⟨by rfl, ?_⟩) hS ?_
      rotate_left 1
      · intro w' hSw
        try dsimp only at hSw
        obtain ⟨q1, q2, q3⟩ := hSw
        go_simp
        all_goals with_reducible rfl
      try simp only [Act.put, List.setIfInBounds_toArray, List.set_cons_zero, List.set_cons_succ]
      refine wpAnyH_done (by kernel_rfl) (noPanic_normal ?_) _
      clear hS hr
      have hr := hr1.mono (Nat.zero_le _)
      go_wp2_with fail
      refine wp_held_np (fun w' : World => (∀ j, w'.cell? ⟨w.heap.size, j, none⟩ = #[Value.int .i64 s.head, .slice A n c, .int .i64 s.lane.lo, .int .i64 s.lane.hi, .int .i64 s.bend][j]?) ∧ w'.cell? ⟨bv, ov + k, none⟩ = some (.int .i64 y) ∧ w'.cell? ⟨bw, ow + k * 4 + 2, none⟩ = some (.int .i64 x.alo.lo) ∧ w'.cell? ⟨bw, ow + k * 4 + 3, none⟩ = some (.int .i64 x.alo.hi)) (by kernel_rfl) ?_
      have hbel : Below W1.heap.size W1 W1.drew := (Below.refl _ _).drew
      replace k4 := k4.below hbel
      replace k8 := k8.below hbel
      replace k9 := k9.below hbel
      replace b := b.trans (hbel.mono b.size)
      replace hs := hs.below hbel
      replace hd := hd.below hbel
      replace hv := hv.below hbel
      replace hr := hr.below hbel
      replace z0 := (hbel.cell (p := ⟨bw, ow + k * 4, none⟩) hbw).trans z0
      replace z1 := (hbel.cell (p := ⟨bw, ow + k * 4 + 1, none⟩) hbw).trans z1
      replace z2 := (hbel.cell (p := ⟨bw, ow + k * 4 + 2, none⟩) hbw).trans z2
      replace z3 := (hbel.cell (p := ⟨bw, ow + k * 4 + 3, none⟩) hbw).trans z3
      replace y0 := (hbel.cell (p := ⟨bv, ov + k, none⟩) hbv).trans y0
      replace hbw := Nat.lt_of_lt_of_le hbw hbel.size
      replace hbv := Nat.lt_of_lt_of_le hbv hbel.size
      replace hr1 := hr1.below hbel
      clear hbel
      generalize W1.drew = wd2 at *
      have hS : (fun w' : World => (∀ j, w'.cell? ⟨w.heap.size, j, none⟩ = #[Value.int .i64 s.head, .slice A n c, .int .i64 s.lane.lo, .int .i64 s.lane.hi, .int .i64 s.bend][j]?) ∧ w'.cell? ⟨bv, ov + k, none⟩ = some (.int .i64 y) ∧ w'.cell? ⟨bw, ow + k * 4 + 2, none⟩ = some (.int .i64 x.alo.lo) ∧ w'.cell? ⟨bw, ow + k * 4 + 3, none⟩ = some (.int .i64 x.alo.hi)) wd2 := ⟨k4.cell, y0, z2, z3⟩
      refine held_take (i := 0) (v := ?_) 29 rfl rfl (by kernel_rfl) (by kernel_rfl) (by kernel_rfl) (fun _ _ _ h => h) (Or.inl ⟨by rfl, ?_⟩) hS ?_
      rotate_left 1
      · intro w' hSw
        try dsimp only at hSw
        obtain ⟨q1, q2, q3, q4⟩ := hSw
        go_simp
        all_goals with_reducible rfl
      try simp only [Act.put, List.setIfInBounds_toArray, List.set_cons_zero, List.set_cons_succ]
      refine held_take (i := 1) (v := ?_) 30 rfl rfl (by kernel_rfl) (by kernel_rfl) (by kernel_rfl) (fun _ _ _ h => h) (Or.inl ⟨by rfl, ?_⟩) hS ?_
      rotate_left 1
      · intro w' hSw
        try dsimp only at hSw
        obtain ⟨q1, q2, q3, q4⟩ := hSw
        go_simp
        all_goals with_reducible rfl
      try simp only [Act.put, List.setIfInBounds_toArray, List.set_cons_zero, List.set_cons_succ]
      refine held_take (i := 2) (v := ?_) 31 rfl rfl (by kernel_rfl) (by kernel_rfl) (by kernel_rfl) (fun _ _ _ h => h) (Or.inl ⟨by rfl, ?_⟩) hS ?_
      rotate_left 1
      · intro w' hSw
        try dsimp only at hSw
        obtain ⟨q1, q2, q3, q4⟩ := hSw
        go_simp
        all_goals with_reducible rfl
      try simp only [Act.put, List.setIfInBounds_toArray, List.set_cons_zero, List.set_cons_succ]
      refine held_take (i := 3) (v := ?_) 32 rfl rfl (by kernel_rfl) (by kernel_rfl) (by kernel_rfl) (fun _ _ _ h => h) (Or.inl ⟨by rfl, ?_⟩) hS ?_
      rotate_left 1
      · intro w' hSw
        try dsimp only at hSw
        obtain ⟨q1, q2, q3, q4⟩ := hSw
        go_simp
        all_goals with_reducible rfl
      try simp only [Act.put, List.setIfInBounds_toArray, List.set_cons_zero, List.set_cons_succ]
      refine held_take (i := 4) (v := ?_) 33 rfl rfl (by kernel_rfl) (by kernel_rfl) (by kernel_rfl) (fun _ _ _ h => h) (Or.inl ⟨by rfl, ?_⟩) hS ?_
      rotate_left 1
      · intro w' hSw
        try dsimp only at hSw
        obtain ⟨q1, q2, q3, q4⟩ := hSw
        go_simp
        all_goals with_reducible rfl
      try simp only [Act.put, List.setIfInBounds_toArray, List.set_cons_zero, List.set_cons_succ]
      refine held_take (i := 5) (v := ?_) 34 rfl rfl (by kernel_rfl) (by kernel_rfl) (by kernel_rfl) (fun _ _ _ h => h) (Or.inl ⟨by rfl, ?_⟩) hS ?_
      rotate_left 1
      · intro w' hSw
        try dsimp only at hSw
        obtain ⟨q1, q2, q3, q4⟩ := hSw
        go_simp
        all_goals with_reducible rfl
      try simp only [Act.put, List.setIfInBounds_toArray, List.set_cons_zero, List.set_cons_succ]
      refine held_take (i := 6) (v := ?_) 35 rfl rfl (by kernel_rfl) (by kernel_rfl) (by kernel_rfl) (fun _ _ _ h => h) (Or.inl ⟨by rfl, ?_⟩) hS ?_
      rotate_left 1
      · intro w' hSw
        try dsimp only at hSw
        obtain ⟨q1, q2, q3, q4⟩ := hSw
        go_simp
        all_goals with_reducible rfl
      try simp only [Act.put, List.setIfInBounds_toArray, List.set_cons_zero, List.set_cons_succ]
      refine held_take (i := 7) (v := ?_) 36 rfl rfl (by kernel_rfl) (by kernel_rfl) (by kernel_rfl) (fun _ _ _ h => h) (Or.inl ⟨by rfl, ?_⟩) hS ?_
      rotate_left 1
      · intro w' hSw
        try dsimp only at hSw
        obtain ⟨q1, q2, q3, q4⟩ := hSw
        go_simp
        all_goals with_reducible rfl
      try simp only [Act.put, List.setIfInBounds_toArray, List.set_cons_zero, List.set_cons_succ]
      refine held_take (i := 8) (v := ?_) 37 rfl rfl (by kernel_rfl) (by kernel_rfl) (by kernel_rfl) (fun _ _ _ h => h) (Or.inl ⟨by rfl, ?_⟩) hS ?_
      rotate_left 1
      · intro w' hSw
        try dsimp only at hSw
        obtain ⟨q1, q2, q3, q4⟩ := hSw
        go_simp
        all_goals with_reducible rfl
      try simp only [Act.put, List.setIfInBounds_toArray, List.set_cons_zero, List.set_cons_succ]
      refine held_take (i := 9) (v := ?_) 38 rfl rfl (by kernel_rfl) (by kernel_rfl) (by kernel_rfl) (fun _ _ _ h => h) (Or.inl ⟨by rfl, ?_⟩) hS ?_
      rotate_left 1
      · intro w' hSw
        try dsimp only at hSw
        obtain ⟨q1, q2, q3, q4⟩ := hSw
        go_simp
        all_goals with_reducible rfl
      try simp only [Act.put, List.setIfInBounds_toArray, List.set_cons_zero, List.set_cons_succ]
      refine held_take (i := 10) (v := ?_) 39 rfl rfl (by kernel_rfl) (by kernel_rfl) (by kernel_rfl) (fun _ _ _ h => h) (Or.inl ⟨by rfl, ?_⟩) hS ?_
      rotate_left 1
      · intro w' hSw
        try dsimp only at hSw
        obtain ⟨q1, q2, q3, q4⟩ := hSw
        go_simp
        all_goals with_reducible rfl
      try simp only [Act.put, List.setIfInBounds_toArray, List.set_cons_zero, List.set_cons_succ]
      refine held_one (i := 11) (by kernel_rfl) rfl rfl (fun K hK => ?_)
      go_simp
      refine (hst.out _ _ _ hs (hr1.mono (Nat.zero_le _))).mono ?_
      rintro e W2 ⟨rfl, hbel⟩
      clear hS hst
      replace k4 := k4.below hbel
      replace k8 := k8.below hbel
      replace k9 := k9.below hbel
      replace b := b.trans (hbel.mono b.size)
      replace hs := hs.below hbel
      replace hd := hd.below hbel
      replace hv := hv.below hbel
      replace hr := hr.below hbel
      replace z0 := (hbel.cell (p := ⟨bw, ow + k * 4, none⟩) hbw).trans z0
      replace z1 := (hbel.cell (p := ⟨bw, ow + k * 4 + 1, none⟩) hbw).trans z1
      replace z2 := (hbel.cell (p := ⟨bw, ow + k * 4 + 2, none⟩) hbw).trans z2
      replace z3 := (hbel.cell (p := ⟨bw, ow + k * 4 + 3, none⟩) hbw).trans z3
      replace y0 := (hbel.cell (p := ⟨bv, ov + k, none⟩) hbv).trans y0
      replace hbw := Nat.lt_of_lt_of_le hbw hbel.size
      replace hbv := Nat.lt_of_lt_of_le hbv hbel.size
      replace hr1 := hr1.below hbel
      clear hbel
      have hS : (fun w' : World => (∀ j, w'.cell? ⟨w.heap.size, j, none⟩ = #[Value.int .i64 s.head, .slice A n c, .int .i64 s.lane.lo, .int .i64 s.lane.hi, .int .i64 s.bend][j]?) ∧ w'.cell? ⟨bv, ov + k, none⟩ = some (.int .i64 y) ∧ w'.cell? ⟨bw, ow + k * 4 + 2, none⟩ = some (.int .i64 x.alo.lo) ∧ w'.cell? ⟨bw, ow + k * 4 + 3, none⟩ = some (.int .i64 x.alo.hi)) W2 := ⟨k4.cell, y0, z2, z3⟩
      refine hK _ _ hS ?_
      clear hK K
      try simp only [Act.put, List.setIfInBounds_toArray, List.set_cons_zero, List.set_cons_succ]
      refine held_take (i := 12) (v := ?_) 28 rfl rfl (by kernel_rfl) (by kernel_rfl) (by kernel_rfl) (fun _ _ _ h => h) (Or.inl ⟨by rfl, ?_⟩) hS ?_
      rotate_left 1
      · intro w' hSw
        try dsimp only at hSw
        obtain ⟨q1, q2, q3, q4⟩ := hSw
        go_simp
        all_goals with_reducible rfl
      try simp only [Act.put, List.setIfInBounds_toArray, List.set_cons_zero, List.set_cons_succ]
      refine held_take (i := 13) (v := ?_) 41 rfl rfl (by kernel_rfl) (by kernel_rfl) (by kernel_rfl) (fun _ _ _ h => h) (Or.inl ⟨by rfl, ?_⟩) hS ?_
      rotate_left 1
      · intro w' hSw
        try dsimp only at hSw
        obtain ⟨q1, q2, q3, q4⟩ := hSw
        go_simp
        all_goals with_reducible rfl
      try simp only [Act.put, List.setIfInBounds_toArray, List.set_cons_zero, List.set_cons_succ]
      refine held_take (i := 14) (v := ?_) 42 rfl rfl (by kernel_rfl) (by kernel_rfl) (by kernel_rfl) (fun _ _ _ h => h) (Or.inl ⟨by rfl, ?_⟩) hS ?_
      rotate_left 1
      · intro w' hSw
        try dsimp only at hSw
        obtain ⟨q1, q2, q3, q4⟩ := hSw
        go_simp
        all_goals with_reducible rfl
      try simp only [Act.put, List.setIfInBounds_toArray, List.set_cons_zero, List.set_cons_succ]
      refine held_take (i := 15) (v := ?_) 11 rfl rfl (by kernel_rfl) (by kernel_rfl) (by kernel_rfl) (fun _ _ _ h => h) (Or.inl ⟨by rfl, ?_⟩) hS ?_
      rotate_left 1
      · intro w' hSw
        try dsimp only at hSw
        obtain ⟨q1, q2, q3, q4⟩ := hSw
        go_simp
        all_goals with_reducible rfl
      try simp only [Act.put, List.setIfInBounds_toArray, List.set_cons_zero, List.set_cons_succ]
      refine held_take (i := 16) (v := ?_) 12 rfl rfl (by kernel_rfl) (by kernel_rfl) (by kernel_rfl) (fun _ _ _ h => h) (Or.inl ⟨by rfl, ?_⟩) hS ?_
      rotate_left 1
      · intro w' hSw
        try dsimp only at hSw
        obtain ⟨q1, q2, q3, q4⟩ := hSw
        go_simp
        all_goals with_reducible rfl
      try simp only [Act.put, List.setIfInBounds_toArray, List.set_cons_zero, List.set_cons_succ]
      refine wpAnyH_done (by kernel_rfl) (noPanic_normal ?_) _
      clear hS hr z0 z1 z2 z3 y0
      have l9 := k9.lt
      have hg : Hid (fb (k + 1) = if bn = true ∧ fb k < 0 then (k : Int) else fb k) := by
        show _ = _
        rw [hfs.out]
        by_cases h1 : 0 ≤ fb k
        · rw [if_pos h1, if_neg (by rintro ⟨-, h⟩; omega)]
        · cases bn
          · rw [if_neg h1, if_neg (by simp), if_neg (by simp)]; omega
          · rw [if_neg h1, if_pos rfl, if_pos ⟨rfl, by omega⟩]
      have hh : Hid (fp (k + 1) = if pn = true ∧ fp k < 0 then (k : Int) else fp k) := by
        show _ = _
        rw [hps.out]
        by_cases h1 : 0 ≤ fp k
        · rw [if_pos h1, if_neg (by rintro ⟨-, h⟩; omega)]
        · cases pn
          · rw [if_neg h1, if_neg (by simp), if_neg (by simp)]; omega
          · rw [if_neg h1, if_pos rfl, if_pos ⟨rfl, by omega⟩]
      generalize fb k = f0 at *
      generalize fp k = p0 at *
      cases bn with
      | false =>
        replace hg := Lib.hid (show fb (k + 1) = f0 by rw [hg.out, if_neg (by simp)])
        have k9a := k9
        have k4a := k4
        have k8a := k8
        have hr1a := hr1
        have ba := b
        cases pn with
        | false =>
          replace hh := Lib.hid (show fp (k + 1) = p0 by rw [hh.out, if_neg (by simp)])
          have k9b := k9a
          have k4b := k4a
          have k8b := k8a
          have hr1b := hr1a
          have bb := ba
          obtain ⟨c9, f9, _⟩ := k9.rules
          go_wp2_with fail
          go_roundw
          case rel => exact ⟨k + 1, P1, m1, by go_num, by omega, rfl, by rw [hbs2.out]; exact hr1b.mono (Nat.zero_le _), k4b, k8b, by rw [hg.out, hh.out]; exact k9b, bb⟩
          case measure => simp [intOf]; omega
        | true =>
          by_cases hchh : p0 < 0
          · replace hh := Lib.hid (show fp (k + 1) = (k : Int) by rw [hh.out, if_pos ⟨rfl, hchh⟩])
            have k9b := k9a.set_ 1 (.int .i64 (k : Int))
            simp only [List.setIfInBounds_toArray, List.set_cons_zero, List.set_cons_succ] at k9b
            have k4b := k4a.far (p := ⟨w.heap.size + 1 + 1, 1, none⟩) (show w.heap.size ≠ w.heap.size + 1 + 1 by omega) (.int .i64 (k : Int))
            have k8b := k8a.far (p := ⟨w.heap.size + 1 + 1, 1, none⟩) (show w.heap.size + 1 ≠ w.heap.size + 1 + 1 by omega) (.int .i64 (k : Int))
            have hr1b := hr1a.setCell (p := ⟨w.heap.size + 1 + 1, 1, none⟩) (show w.heap.size + 1 + 1 < w.heap.size + 1 + 1 + 1 by omega) (.int .i64 (k : Int))
            have bb := ba.setCell (p := ⟨w.heap.size + 1 + 1, 1, none⟩) (show w.heap.size ≤ w.heap.size + 1 + 1 by omega) (.int .i64 (k : Int))
            obtain ⟨c9, f9, _⟩ := k9.rules
            go_wp2_with fail
            go_roundw
            case rel => exact ⟨k + 1, P1, m1, by go_num, by omega, rfl, by rw [hbs2.out]; exact hr1b.mono (Nat.zero_le _), k4b, k8b, by rw [hg.out, hh.out]; exact k9b, bb⟩
            case measure => simp [intOf]; omega
          · replace hh := Lib.hid (show fp (k + 1) = p0 by rw [hh.out, if_neg (fun h => hchh h.2)])
            have k9b := k9a
            have k4b := k4a
            have k8b := k8a
            have hr1b := hr1a
            have bb := ba
            obtain ⟨c9, f9, _⟩ := k9.rules
            go_wp2_with fail
            go_roundw
            case rel => exact ⟨k + 1, P1, m1, by go_num, by omega, rfl, by rw [hbs2.out]; exact hr1b.mono (Nat.zero_le _), k4b, k8b, by rw [hg.out, hh.out]; exact k9b, bb⟩
            case measure => simp [intOf]; omega
      | true =>
        by_cases hchg : f0 < 0
        · replace hg := Lib.hid (show fb (k + 1) = (k : Int) by rw [hg.out, if_pos ⟨rfl, hchg⟩])
          have k9a := k9.set_ 0 (.int .i64 (k : Int))
          simp only [List.setIfInBounds_toArray, List.set_cons_zero, List.set_cons_succ] at k9a
          have k4a := k4.far (p := ⟨w.heap.size + 1 + 1, 0, none⟩) (show w.heap.size ≠ w.heap.size + 1 + 1 by omega) (.int .i64 (k : Int))
          have k8a := k8.far (p := ⟨w.heap.size + 1 + 1, 0, none⟩) (show w.heap.size + 1 ≠ w.heap.size + 1 + 1 by omega) (.int .i64 (k : Int))
          have hr1a := hr1.setCell (p := ⟨w.heap.size + 1 + 1, 0, none⟩) (show w.heap.size + 1 + 1 < w.heap.size + 1 + 1 + 1 by omega) (.int .i64 (k : Int))
          have ba := b.setCell (p := ⟨w.heap.size + 1 + 1, 0, none⟩) (show w.heap.size ≤ w.heap.size + 1 + 1 by omega) (.int .i64 (k : Int))
          cases pn with
          | false =>
            replace hh := Lib.hid (show fp (k + 1) = p0 by rw [hh.out, if_neg (by simp)])
            have k9b := k9a
            have k4b := k4a
            have k8b := k8a
            have hr1b := hr1a
            have bb := ba
            obtain ⟨c9, f9, _⟩ := k9.rules
            go_wp2_with fail
            go_roundw
            case rel => exact ⟨k + 1, P1, m1, by go_num, by omega, rfl, by rw [hbs2.out]; exact hr1b.mono (Nat.zero_le _), k4b, k8b, by rw [hg.out, hh.out]; exact k9b, bb⟩
            case measure => simp [intOf]; omega
          | true =>
            by_cases hchh : p0 < 0
            · replace hh := Lib.hid (show fp (k + 1) = (k : Int) by rw [hh.out, if_pos ⟨rfl, hchh⟩])
              have k9b := k9a.set_ 1 (.int .i64 (k : Int))
              simp only [List.setIfInBounds_toArray, List.set_cons_zero, List.set_cons_succ] at k9b
              have k4b := k4a.far (p := ⟨w.heap.size + 1 + 1, 1, none⟩) (show w.heap.size ≠ w.heap.size + 1 + 1 by omega) (.int .i64 (k : Int))
              have k8b := k8a.far (p := ⟨w.heap.size + 1 + 1, 1, none⟩) (show w.heap.size + 1 ≠ w.heap.size + 1 + 1 by omega) (.int .i64 (k : Int))
              have hr1b := hr1a.setCell (p := ⟨w.heap.size + 1 + 1, 1, none⟩) (show w.heap.size + 1 + 1 < w.heap.size + 1 + 1 + 1 by omega) (.int .i64 (k : Int))
              have bb := ba.setCell (p := ⟨w.heap.size + 1 + 1, 1, none⟩) (show w.heap.size ≤ w.heap.size + 1 + 1 by omega) (.int .i64 (k : Int))
              obtain ⟨c9, f9, _⟩ := k9.rules
              go_wp2_with fail
              go_roundw
              case rel => exact ⟨k + 1, P1, m1, by go_num, by omega, rfl, by rw [hbs2.out]; exact hr1b.mono (Nat.zero_le _), k4b, k8b, by rw [hg.out, hh.out]; exact k9b, bb⟩
              case measure => simp [intOf]; omega
            · replace hh := Lib.hid (show fp (k + 1) = p0 by rw [hh.out, if_neg (fun h => hchh h.2)])
              have k9b := k9a
              have k4b := k4a
              have k8b := k8a
              have hr1b := hr1a
              have bb := ba
              obtain ⟨c9, f9, _⟩ := k9.rules
              go_wp2_with fail
              go_roundw
              case rel => exact ⟨k + 1, P1, m1, by go_num, by omega, rfl, by rw [hbs2.out]; exact hr1b.mono (Nat.zero_le _), k4b, k8b, by rw [hg.out, hh.out]; exact k9b, bb⟩
              case measure => simp [intOf]; omega
        · replace hg := Lib.hid (show fb (k + 1) = f0 by rw [hg.out, if_neg (fun h => hchg h.2)])
          have k9a := k9
          have k4a := k4
          have k8a := k8
          have hr1a := hr1
          have ba := b
          cases pn with
          | false =>
            replace hh := Lib.hid (show fp (k + 1) = p0 by rw [hh.out, if_neg (by simp)])
            have k9b := k9a
            have k4b := k4a
            have k8b := k8a
            have hr1b := hr1a
            have bb := ba
            obtain ⟨c9, f9, _⟩ := k9.rules
            go_wp2_with fail
            go_roundw
            case rel => exact ⟨k + 1, P1, m1, by go_num, by omega, rfl, by rw [hbs2.out]; exact hr1b.mono (Nat.zero_le _), k4b, k8b, by rw [hg.out, hh.out]; exact k9b, bb⟩
            case measure => simp [intOf]; omega
          | true =>
            by_cases hchh : p0 < 0
            · replace hh := Lib.hid (show fp (k + 1) = (k : Int) by rw [hh.out, if_pos ⟨rfl, hchh⟩])
              have k9b := k9a.set_ 1 (.int .i64 (k : Int))
              simp only [List.setIfInBounds_toArray, List.set_cons_zero, List.set_cons_succ] at k9b
              have k4b := k4a.far (p := ⟨w.heap.size + 1 + 1, 1, none⟩) (show w.heap.size ≠ w.heap.size + 1 + 1 by omega) (.int .i64 (k : Int))
              have k8b := k8a.far (p := ⟨w.heap.size + 1 + 1, 1, none⟩) (show w.heap.size + 1 ≠ w.heap.size + 1 + 1 by omega) (.int .i64 (k : Int))
              have hr1b := hr1a.setCell (p := ⟨w.heap.size + 1 + 1, 1, none⟩) (show w.heap.size + 1 + 1 < w.heap.size + 1 + 1 + 1 by omega) (.int .i64 (k : Int))
              have bb := ba.setCell (p := ⟨w.heap.size + 1 + 1, 1, none⟩) (show w.heap.size ≤ w.heap.size + 1 + 1 by omega) (.int .i64 (k : Int))
              obtain ⟨c9, f9, _⟩ := k9.rules
              go_wp2_with fail
              go_roundw
              case rel => exact ⟨k + 1, P1, m1, by go_num, by omega, rfl, by rw [hbs2.out]; exact hr1b.mono (Nat.zero_le _), k4b, k8b, by rw [hg.out, hh.out]; exact k9b, bb⟩
              case measure => simp [intOf]; omega
            · replace hh := Lib.hid (show fp (k + 1) = p0 by rw [hh.out, if_neg (fun h => hchh h.2)])
              have k9b := k9a
              have k4b := k4a
              have k8b := k8a
              have hr1b := hr1a
              have bb := ba
              obtain ⟨c9, f9, _⟩ := k9.rules
              go_wp2_with fail
              go_roundw
              case rel => exact ⟨k + 1, P1, m1, by go_num, by omega, rfl, by rw [hbs2.out]; exact hr1b.mono (Nat.zero_le _), k4b, k8b, by rw [hg.out, hh.out]; exact k9b, bb⟩
              case measure => simp [intOf]; omega
    · obtain rfl : k = nd := by omega
      obtain ⟨c8, f8, l8⟩ := k8.rules
      obtain ⟨c9, f9, l9⟩ := k9.rules
      have k8z := (k8.set_ 0 (.int .i64 (fb k))).set_ 1 (.int .i64 (fp k))
      have bz := (b.setCell (p := ⟨w.heap.size + 1, 0, none⟩) (by dsimp only; omega) (.int .i64 (fb k))).setCell (p := ⟨w.heap.size + 1, 1, none⟩) (by dsimp only; omega) (.int .i64 (fp k))
      obtain ⟨wz, hwz⟩ : ∃ x, x = (wr.setCell ⟨w.heap.size + 1, 0, none⟩ (.int .i64 (fb k))).setCell ⟨w.heap.size + 1, 1, none⟩ (.int .i64 (fp k)) := ⟨_, rfl⟩
      rw [← hwz] at k8z bz
      clear k8 k9 b
      go_wp2
      rw [← hwz]
      clear hwz c8 f8 l8 c9 f9 l9
      obtain ⟨c8, f8, l8⟩ := k8z.rules
      exact bodyPost_ret (v := .agg #[.int .i64 (fb k), .int .i64 (fp k)]) (by simp [results, Tryz.results51, go_sem, c8]) rfl ⟨rfl, bz⟩
set_option maxRecDepth 100000 in
set_option maxHeartbeats 1000000 in
theorem Rkeeps_any (s : Strm) (A O D V : Option Addr) (n c co nd cd cv : Nat) (bs : List Bnd) (l : List Wat) (v : List Int) (w : World) (ho : okStrm s = true) (hb0 : okOffs s bs = true) (hwl : l.all okWat = true) (hvs : okSpeeds v = true) (hnd : nd ≤ 48) (hs : SlAt w 0 5 Sec.cells A n c s.secs) (hl : SlAt w 0 2 Bnd.cells O n co bs) (hd : SlAt w 0 4 Wat.cells D nd cd l) (hv : SlAt w 0 1 ivs V nd cv v) :
    Calls Tryz.prog 53 #[.agg #[.int .i64 s.head, .slice A n c, .int .i64 s.lane.lo, .int .i64 s.lane.hi, .int .i64 s.bend], .slice O n co, .slice D nd cd, .slice V nd cv] w fun e w' => e = .returned (.bool (keepsS s bs l v)) ∧ Below w.heap.size w w' := by
  have hk : keepsS s bs l v = decide ((strainS s bs l v nd).1 = -1 ∧ (strainS s bs l v nd).2 = -1) := by
    unfold keepsS; rw [hd.len]; congr 1; rw [Prod.ext_iff]
  rw [hk]
  clear hk
  have h := fun w' hb => Rwatch_any s A O D V n c co nd cd cv bs l v w' ho hb0 hwl hvs hnd (hs.below (w' := w') hb) (hl.below hb) (hd.below hb) (hv.below hb)
  generalize strainS s bs l v nd = p at *
  obtain ⟨p1, p2⟩ := p
  dsimp only at *
  replace h := Lib.hid h
  clear hs hl hd hv ho hb0 hwl hvs
  obtain ⟨b, hb⟩ : ∃ b, b = decide (p1 = -1 ∧ p2 = -1) := ⟨_, rfl⟩
  rw [← hb]
  replace hb := Lib.hid hb
  go_enter Tryz.func53, Tryz.ntmps53
  go_wp2_with fail
  refine (h.out _ ((Below.refl _ _).alloc (Nat.le_refl _) _)).mono ?_
  rintro e w1 ⟨rfl, hb1⟩
  have b1 := ((Below.refl w.heap.size w).alloc (Nat.le_refl _) _).trans (hb1.mono (by simp))
  go_wp2
  all_goals
    go_ret
    exact ⟨ret_bool (by rw [hb.out]; simp [*]), b1⟩
set_option maxRecDepth 100000 in
set_option maxHeartbeats 1000000 in
theorem RWatch_any (s : Strm) (A O D V : Option Addr) (n c no co nd cd nv cv : Nat) (bs : List Bnd) (l : List Wat) (v : List Int) (w : World) (hs : SlAt w 0 5 Sec.cells A n c s.secs) (hl : SlAt w 0 2 Bnd.cells O no co bs) (hd : SlAt w 0 4 Wat.cells D nd cd l) (hv : SlAt w 0 1 ivs V nv cv v) :
    Calls Tryz.prog 12 #[.agg #[.int .i64 s.head, .slice A n c, .int .i64 s.lane.lo, .int .i64 s.lane.hi, .int .i64 s.bend], .slice O no co, .slice D nd cd, .slice V nv cv] w fun e w' =>
      e = .returned (.tuple #[.agg #[.int .i64 (watchR s bs l v).1.1, .int .i64 (watchR s bs l v).1.2], .int .i64 (watchR s bs l v).2]) ∧ Below w.heap.size w w' := by
  have has := fun W (hb : Below w.heap.size w W) => Rasked_any s A O D V n c no co nd cd nv cv bs l v W (hs.below hb) (hl.below hb) (hd.below hb) (hv.below hb)
  obtain ⟨w1, hw1⟩ : ∃ w1, w1 = (w.alloc (.cells #[.int .i64 s.head, .slice A n c, .int .i64 s.lane.lo, .int .i64 s.lane.hi, .int .i64 s.bend] 26)).alloc (.cells #[.int .i64 0, .int .i64 0] 35) := ⟨_, rfl⟩
  have k4 : Blk w1 w.heap.size 26 #[.int .i64 s.head, .slice A n c, .int .i64 s.lane.lo, .int .i64 s.lane.hi, .int .i64 s.bend] := by rw [hw1]; exact (Blk.new _ _ _).alloc _
  have k8 : Blk w1 (w.heap.size + 1) 35 #[.int .i64 0, .int .i64 0] := by rw [hw1]; exact Blk.newAt (by simp)
  have b : Below w.heap.size w w1 := by rw [hw1]; exact ((Below.refl _ _).alloc (Nat.le_refl _) _).alloc (by simp) _
  by_cases h1 : errW s bs l v = 0
  · obtain ⟨o1, o2, o3, o4, o5, o6⟩ := errW_zero h1
    have hno : no = n := by have := okOffs_len o2; have := hs.len; have := hl.len; omega
    have hnv : nv = nd := by have := hv.len; have := hd.len; omega
    subst hno
    subst hnv
    have hwa := fun W (hb : Below w.heap.size w W) => Rwatch_any s A O D V no c co nv cd cv bs l v W o1 o2 o3 o4 (by have := errW_wats h1; have := hd.len; omega) (hs.below hb) (hl.below hb) (hd.below hb) (hv.below hb)
    have e1 : watchR s bs l v = (strainS s bs l v nv, 0) := by rw [watchR, if_pos h1, hd.len]
    rw [e1]
    simp only [h1] at has
    generalize strainS s bs l v nv = q at *
    obtain ⟨q1, q2⟩ := q
    dsimp only at *
    replace has := Lib.hid has
    replace hwa := Lib.hid hwa
    clear e1 h1 o1 o2 o3 o4 o5 o6 hs hl hd hv
    go_enter Tryz.func12, Tryz.ntmps12
    go_wp2_with fail
    rw [← hw1]
    clear hw1
    refine (has.out _ b).mono ?_
    rintro e W ⟨rfl, hbel⟩
    replace k4 := k4.below hbel
    replace k8 := k8.below hbel
    replace b := b.trans (hbel.mono b.size)
    clear hbel
    obtain ⟨c4, f4, l4⟩ := k4.rules
    go_wp2_with fail
    clear c4 f4 l4
    refine (hwa.out _ b).mono ?_
    rintro e W ⟨rfl, hbel⟩
    replace k4 := k4.below hbel
    replace k8 := k8.below hbel
    replace b := b.trans (hbel.mono b.size)
    clear hbel
    have k8z := (k8.set_ 0 (.int .i64 q1)).set_ 1 (.int .i64 q2)
    have bz := (b.setCell (p := ⟨w.heap.size + 1, 0, none⟩) (by dsimp only; omega) (.int .i64 q1)).setCell (p := ⟨w.heap.size + 1, 1, none⟩) (by dsimp only; omega) (.int .i64 q2)
    obtain ⟨wz, hwz⟩ : ∃ x, x = (W.setCell ⟨w.heap.size + 1, 0, none⟩ (.int .i64 q1)).setCell ⟨w.heap.size + 1, 1, none⟩ (.int .i64 q2) := ⟨_, rfl⟩
    rw [← hwz] at k8z bz
    obtain ⟨c8, f8, l8⟩ := k8.rules
    clear k8 b
    go_wp2
    rw [← hwz]
    clear hwz c8 f8 l8
    obtain ⟨c8, f8, l8⟩ := k8z.rules
    exact bodyPost_ret (v := .tuple #[.agg #[.int .i64 q1, .int .i64 q2], .int .i64 0]) (by simp [results, Tryz.results12, go_sem, c8]) rfl ⟨rfl, bz⟩
  · have e1 : watchR s bs l v = ((0, 0), errW s bs l v) := by rw [watchR, if_neg h1]
    rw [e1]
    generalize errW s bs l v = er at *
    have h1' : (er != 0) = true := by rw [bne_iff_ne]; exact h1
    replace h1 := Lib.hid h1
    replace has := Lib.hid has
    clear e1 hs hl hd hv
    dsimp only
    go_enter Tryz.func12, Tryz.ntmps12
    go_wp2_with fail
    rw [← hw1]
    clear hw1
    refine (has.out _ b).mono ?_
    rintro e W ⟨rfl, hbel⟩
    replace k4 := k4.below hbel
    replace k8 := k8.below hbel
    replace b := b.trans (hbel.mono b.size)
    clear hbel
    have k8z := (k8.set_ 0 (.int .i64 0)).set_ 1 (.int .i64 0)
    have bz := (b.setCell (p := ⟨w.heap.size + 1, 0, none⟩) (by dsimp only; omega) (.int .i64 0)).setCell (p := ⟨w.heap.size + 1, 1, none⟩) (by dsimp only; omega) (.int .i64 0)
    obtain ⟨wz, hwz⟩ : ∃ x, x = (W.setCell ⟨w.heap.size + 1, 0, none⟩ (.int .i64 0)).setCell ⟨w.heap.size + 1, 1, none⟩ (.int .i64 0) := ⟨_, rfl⟩
    rw [← hwz] at k8z bz
    obtain ⟨c8, f8, l8⟩ := k8.rules
    clear k8 b
    go_wp2
    rw [← hwz]
    clear hwz c8 f8 l8
    obtain ⟨c8, f8, l8⟩ := k8z.rules
    exact bodyPost_ret (v := .tuple #[.agg #[.int .i64 0, .int .i64 0], .int .i64 er]) (by simp [results, Tryz.results12, go_sem, c8]) rfl ⟨rfl, bz⟩
set_option maxRecDepth 100000 in
set_option maxHeartbeats 1000000 in
theorem RKeeps_any (s : Strm) (A O D V : Option Addr) (n c no co nd cd nv cv : Nat) (bs : List Bnd) (l : List Wat) (v : List Int) (w : World) (hs : SlAt w 0 5 Sec.cells A n c s.secs) (hl : SlAt w 0 2 Bnd.cells O no co bs) (hd : SlAt w 0 4 Wat.cells D nd cd l) (hv : SlAt w 0 1 ivs V nv cv v) :
    Calls Tryz.prog 14 #[.agg #[.int .i64 s.head, .slice A n c, .int .i64 s.lane.lo, .int .i64 s.lane.hi, .int .i64 s.bend], .slice O no co, .slice D nd cd, .slice V nv cv] w fun e w' =>
      e = .returned (.tuple #[.bool (keepsR s bs l v).1, .int .i64 (keepsR s bs l v).2]) ∧ Below w.heap.size w w' := by
  have has := fun W (hb : Below w.heap.size w W) => Rasked_any s A O D V n c no co nd cd nv cv bs l v W (hs.below hb) (hl.below hb) (hd.below hb) (hv.below hb)
  obtain ⟨w1, hw1⟩ : ∃ w1, w1 = w.alloc (.cells #[.int .i64 s.head, .slice A n c, .int .i64 s.lane.lo, .int .i64 s.lane.hi, .int .i64 s.bend] 26) := ⟨_, rfl⟩
  have k4 : Blk w1 w.heap.size 26 #[.int .i64 s.head, .slice A n c, .int .i64 s.lane.lo, .int .i64 s.lane.hi, .int .i64 s.bend] := by rw [hw1]; exact Blk.new _ _ _
  have b : Below w.heap.size w w1 := by rw [hw1]; exact (Below.refl _ _).alloc (Nat.le_refl _) _
  by_cases h1 : errW s bs l v = 0
  · obtain ⟨o1, o2, o3, o4, o5, o6⟩ := errW_zero h1
    have hno : no = n := by have := okOffs_len o2; have := hs.len; have := hl.len; omega
    have hnv : nv = nd := by have := hv.len; have := hd.len; omega
    subst hno
    subst hnv
    have hwa := fun W (hb : Below w.heap.size w W) => Rkeeps_any s A O D V no c co nv cd cv bs l v W o1 o2 o3 o4 (by have := errW_wats h1; have := hd.len; omega) (hs.below hb) (hl.below hb) (hd.below hb) (hv.below hb)
    have e1 : keepsR s bs l v = (keepsS s bs l v, 0) := by rw [keepsR, if_pos h1]
    rw [e1]
    simp only [h1] at has
    generalize keepsS s bs l v = q at *
    dsimp only at *
    replace has := Lib.hid has
    replace hwa := Lib.hid hwa
    clear e1 h1 o1 o2 o3 o4 o5 o6 hs hl hd hv
    go_enter Tryz.func14, Tryz.ntmps14
    go_wp2_with fail
    rw [← hw1]
    clear hw1
    refine (has.out _ b).mono ?_
    rintro e W ⟨rfl, hbel⟩
    replace k4 := k4.below hbel
    replace b := b.trans (hbel.mono b.size)
    clear hbel
    obtain ⟨c4, f4, l4⟩ := k4.rules
    go_wp2_with fail
    clear c4 f4 l4
    refine (hwa.out _ b).mono ?_
    rintro e W ⟨rfl, hbel⟩
    replace k4 := k4.below hbel
    replace b := b.trans (hbel.mono b.size)
    clear hbel
    go_wp2
    go_ret2
    exact ⟨rfl, b⟩
  · have e1 : keepsR s bs l v = (false, errW s bs l v) := by rw [keepsR, if_neg h1]
    rw [e1]
    generalize errW s bs l v = er at *
    have h1' : (er != 0) = true := by rw [bne_iff_ne]; exact h1
    replace h1 := Lib.hid h1
    replace has := Lib.hid has
    clear e1 hs hl hd hv
    dsimp only
    go_enter Tryz.func14, Tryz.ntmps14
    go_wp2_with fail
    rw [← hw1]
    clear hw1
    refine (has.out _ b).mono ?_
    rintro e W ⟨rfl, hbel⟩
    replace k4 := k4.below hbel
    replace b := b.trans (hbel.mono b.size)
    clear hbel
    go_wp2
    go_ret2
    exact ⟨rfl, b⟩
end Go.Proofs.YtjiaepphnddpoaaGreat
