/-
  The law TowWeakest.
-/
import Derived.Test.YtjiaepphnddpoaaE1
import Derived.Test.YtjiaepphnddpoaaM2
import Derived.Test.YtjiaepphnddpoaaW14
namespace Go.Proofs.Ytjiaepphnddpoaa
open Go.RowKit Go.Shelf
set_option linter.unusedSimpArgs false
set_option linter.unusedVariables false

theorem errW_vals (s : Strm) (bs : List Bnd) (l : List Wat) (v : List Int) : errW s bs l v = 0 ∨ errW s bs l v = 30 ∨ errW s bs l v = 31 ∨ errW s bs l v = 33 ∨ errW s bs l v = 34 := by
  have := errBW_vals s bs l
  unfold errW
  split
  · split
    · exact .inl rfl
    · simp
  · omega
theorem birds_err {s : Strm} {bs : List Bnd} {l : List Wat} {v : List Int} {m : Int} (h : errW s bs l v = 0) (h0 : 0 ≤ m) (h1 : m ≤ 1000) : keepsR (birdsS s m) bs l v = (keepsS (birdsS s m) bs l v, 0) := by
  obtain ⟨o1, o2, o3, o4, o5, o6⟩ := errW_zero h
  have e1 : errB (birdsS s m) bs = 0 := by rw [errB, if_pos (birds_ok o1 h0 h1), if_pos (birds_offs o2)]
  have e2 : errBW (birdsS s m) bs l = 0 := by
    have hb : errBW s bs l = 0 := by
      by_cases hb : errBW s bs l = 0
      · exact hb
      · rw [errW, if_neg hb] at h; exact absurd h hb
    rw [errBW, o6, if_pos rfl] at hb
    rw [errBW, e1, if_pos rfl, hb]
  have e3 : errW (birdsS s m) bs l v = 0 := by rw [errW, if_pos e2, if_pos ⟨o5, o4⟩]
  rw [keepsR, if_pos e3]
theorem fstN_is {p : Nat → Bool} : ∀ n, fstN p n = -1 ∧ noneB p n ∨ ∃ k : Nat, fstN p n = k ∧ k < n ∧ p k = true ∧ noneB p k
  | 0 => .inl ⟨rfl, fun m hm => by omega⟩
  | n + 1 => by
    rw [fstN_step]
    rcases fstN_is (p := p) n with ⟨h1, h2⟩ | ⟨k, h1, h2, h3, h4⟩
    · rw [h1, if_neg (by omega)]
      cases hp : p n with
      | true => rw [if_pos rfl]; exact .inr ⟨n, rfl, by omega, hp, h2⟩
      | false => rw [if_neg (by simp)]; exact .inl ⟨rfl, noneB_succ h2 hp⟩
    · rw [h1, if_pos (by omega)]
      exact .inr ⟨k, rfl, by omega, h3, h4⟩
set_option maxRecDepth 100000 in
set_option maxHeartbeats 4000000 in
theorem with_any (s : Strm) (A O D V : Option Addr) (n c no co nd cd nv cv g1 g2 : Nat) (bs : List Bnd) (l : List Wat) (v : List Int) (m : Int) (w : World) (he : errW s bs l v = 0) (h0 : 0 ≤ m) (h1 : m ≤ 1000) (hs : SlAt w 0 5 Sec.cells A n c s.secs) (hl : SlAt w 0 2 Bnd.cells O no co bs) (hd : SlAt w 0 4 Wat.cells D nd cd l) (hv : SlAt w 0 1 ivs V nv cv v)
    (k1 : Blk w g1 37 #[.int .i64 s.head, .slice A n c, .int .i64 s.lane.lo, .int .i64 s.lane.hi, .int .i64 s.bend, .slice O no co]) (k2 : Blk w g2 64 #[.slice D nd cd, .slice V nv cv]) :
    Calls Try.prog 47 #[.int .i64 m, .pointer (some ⟨g1, 0, none⟩), .pointer (some ⟨g2, 0, none⟩)] w fun e w' => e = .returned (.tuple #[.bool (keepsS (birdsS s m) bs l v), .bool true]) ∧ Below w.heap.size w w' := by
  have hk := birds_err (m := m) he h0 h1
  have hKp := fun W g pc h1 h2 h3 h4 => Keeps_any (birdsS s m) (some ⟨g, 0, none⟩) O D V n pc no co nd cd nv cv bs l v W h1 h2 h3 h4
  simp only [hk] at hKp
  have hln := Lib.hid hs.len
  have hn8 : 1 ≤ n ∧ n ≤ 8 := by have := ok_head (errW_zero he).1; unfold headOk at this; have := hs.len; omega
  replace hKp : ∀ (W : World) (g pc : Nat), SlAt W 0 5 Sec.cells (some ⟨g, 0, none⟩) n pc (s.secs.map (birdS m)) → SlAt W 0 2 Bnd.cells O no co bs → SlAt W 0 4 Wat.cells D nd cd l → SlAt W 0 1 ivs V nv cv v →
      Calls Try.prog 38 #[.agg #[.int .i64 s.head, .slice (some ⟨g, 0, none⟩) n pc, .int .i64 s.lane.lo, .int .i64 s.lane.hi, .int .i64 s.bend], .slice O no co, .slice D nd cd, .slice V nv cv] W fun e w' =>
        e = .returned (.tuple #[.bool (keepsS (birdsS s m) bs l v), .int .i64 0]) ∧ Below W.heap.size W w' := hKp
  generalize keepsS (birdsS s m) bs l v = ks at *
  replace hKp := Lib.hid hKp
  replace he := Lib.hid he
  clear hk
  obtain ⟨b, off, hA, -, hbl, -⟩ := hs.2.2.2 (show 0 < n by omega)
  subst hA
  have hbel := (Below.refl w.heap.size w).alloc (Nat.le_refl _) (.cells #[.int .i64 s.head, .slice (some ⟨b, off, none⟩) n c, .int .i64 s.lane.lo, .int .i64 s.lane.hi, .int .i64 s.bend] 26)
  have k6 := Blk.new w 26 #[.int .i64 s.head, .slice (some ⟨b, off, none⟩) n c, .int .i64 s.lane.lo, .int .i64 s.lane.hi, .int .i64 s.bend]
  have hb := hbel
  have l1' := Lib.hid k1.lt
  have l2' := Lib.hid k2.lt
  have k10 := Lib.hid k1
  have k20 := Lib.hid k2
  have hl0 := Lib.hid hl
  have hd0 := Lib.hid hd
  have hv0 := Lib.hid hv
  obtain ⟨c1, f1, l1⟩ := k1.rules
  obtain ⟨c2, f2, l2⟩ := k2.rules
  obtain ⟨i0, hi0, hz0, hz1, hz2⟩ := info_parts Try.infoSec
  have hown := own_none (w.alloc (.cells #[.int .i64 s.head, .slice (some ⟨b, off, none⟩) n c, .int .i64 s.lane.lo, .int .i64 s.lane.hi, .int .i64 s.bend] 26)) 61 5
  rw [World.size_alloc] at hown
  have hbf := hb.alloc hb.size (.cells #[] 61)
  have hbg := (Below.refl (w.heap.size + 1) (w.alloc (.cells #[.int .i64 s.head, .slice (some ⟨b, off, none⟩) n c, .int .i64 s.lane.lo, .int .i64 s.lane.hi, .int .i64 s.bend] 26))).alloc (by simp) (.cells #[] 61)
  have hnews := Lib.hid (SlAt.news (enc := Sec.cells) (s := 5) (fun _ => rfl) ((hs.alloc (.cells #[.int .i64 s.head, .slice (some ⟨b, off, none⟩) n c, .int .i64 s.lane.lo, .int .i64 s.lane.hi, .int .i64 s.bend] 26)).alloc (.cells #[] 61)) (show 0 < n by omega))
  have hlen : Hid ((s.secs.flatMap Sec.cells).length = n * 5) := by show _ = _; rw [flat_len (s := 5) (fun _ => rfl), hln.out]
  have hone := Lib.hid (sec_one s.secs)
  have hbig1 : Hid (0 + n ≤ maxLen) := by show 0 + n ≤ maxLen; unfold maxLen; omega
  have hbig2 : Hid ((0 + n) * 40 ≤ 140737488355328) := by show (0 + n) * 40 ≤ 140737488355328; omega
  have hbz : Hid (w.heap.size + 1 ≤ ((w.alloc (.cells #[.int .i64 s.head, .slice (some ⟨b, off, none⟩) n c, .int .i64 s.lane.lo, .int .i64 s.lane.hi, .int .i64 s.bend] 26)).alloc (.cells #[] 61)).heap.size) := by show _ ≤ _; simp
  replace hbf := Lib.hid hbf
  replace hbg := Lib.hid hbg
  go_enter Try.func47, Try.ntmps47
  go_wp2_with (at_builtin; refine wpList_append_lies _ rfl (.tmp 12) (.tmp 15) 22 rfl (w.heap.size + 1) 61 i0 (.agg #[.int .i64 0, .int .i64 0, .int .i64 0, .int .i64 0, .int .i64 0]) 5 40 Try.underlying22 hi0 hz0 hz1 hz2 rfl (by decide) (.slice (some ⟨w.heap.size + 1, 0, none⟩) 0 0) 0 [] rfl hown ⟨b, off, none⟩ n c (s.secs.flatMap Sec.cells) rfl hlen.out hnews.out hone.out (by omega) hbig1.out hbig2.out hbz.out (w.heap.size + 1 + 1) (by simp) ?_; intro g pc w7 hown7 hgrow hlies hlt7; rw [Nat.zero_add, List.nil_append] at hown7; have hb7 : Below (w.heap.size + 1) _ w7 := ⟨hgrow.os, hgrow.tape, hgrow.output, hgrow.size, fun b hb2 => hgrow.block b (Nat.lt_of_lt_of_le hb2 hbz.out) (fun e => by have := (hown.lt _ e.symm).1; omega)⟩; have k6b := k6.belowB (hbg.out.trans hb7) (by omega); have hb8 := hbf.out.trans (hb7.mono (by omega)); clear hown hgrow hb7; obtain ⟨c6, f6, l6⟩ := k6b.rules)
  clear c6 f6 l6 c1 f1 l1 c2 f2 l2
  have hgg : w.heap.size + 1 ≤ g := (hown7.lt _ rfl).1
  replace k1 := k1.belowB hb8 k1.lt
  replace k2 := k2.belowB hb8 k2.lt
  replace hl := hl.below hb8
  replace hd := hd.below hb8
  replace hv := hv.below hb8
  have lg1 : g1 < w.heap.size := l1'.out
  have lg2 : g2 < w.heap.size := l2'.out
  clear hbel hbf hbg hnews hone hbig1 hbig2 hbz hs hlies
  have hown2 := ownsRow_setCell hown7 (p := ⟨w.heap.size, 1, none⟩) (by simp [Value.ownBlock]; omega) (.slice (some ⟨g, 0, none⟩) n pc)
  have k6c := k6b.set_ 1 (.slice (some ⟨g, 0, none⟩) n pc)
  simp only [List.setIfInBounds_toArray, List.set_cons_zero, List.set_cons_succ] at k6c
  have k1c := k1.far (p := ⟨w.heap.size, 1, none⟩) (show g1 ≠ w.heap.size by omega) (.slice (some ⟨g, 0, none⟩) n pc)
  have k2c := k2.far (p := ⟨w.heap.size, 1, none⟩) (show g2 ≠ w.heap.size by omega) (.slice (some ⟨g, 0, none⟩) n pc)
  have hbc := hb8.setCell (p := ⟨w.heap.size, 1, none⟩) (Nat.le_refl _) (.slice (some ⟨g, 0, none⟩) n pc)
  have hlc := hl0.out.below hbc
  have hdc := hd0.out.below hbc
  have hvc := hv0.out.below hbc
  clear hb8 k6b k6 k1 k2 hl hd hv hown7 hlt7
  generalize w7.setCell ⟨w.heap.size, 1, none⟩ (.slice (some ⟨g, 0, none⟩) n pc) = W3 at *
  go_loopw [7] (fun j wq => ∃ i : Nat, j = .int .i64 i ∧ i ≤ n ∧ Blk wq w.heap.size 26 #[.int .i64 s.head, .slice (some ⟨g, 0, none⟩) n pc, .int .i64 s.lane.lo, .int .i64 s.lane.hi, .int .i64 s.bend] ∧ wq.ownsRow (w.heap.size + 1) 61 5 (.slice (some ⟨g, 0, none⟩) n pc) n ((birdsTo s.secs m i).flatMap Sec.cells) ∧ Below w.heap.size w wq) (fun j wq => n - (intOf j).toNat)
  case atStart => exact ⟨0, rfl, Nat.zero_le _, k6c, hown2, hbc⟩
  case round =>
    obtain ⟨i, rfl, hi, k13, hown, hbq⟩ := hrel
    by_cases hin : i < n
    · obtain ⟨x, hx⟩ := some_of_lt hln.out hin
      have hbl := birdsTo_len s.secs m i
      have hat := birdsTo_at (m := m) hx
      have hsl := SlAt.own (enc := Sec.cells) hown (by omega) (birdsTo s.secs m i) rfl (fun _ => rfl) (by rw [hbl]; exact hln.out)
      obtain ⟨b9, off9, hA9, -, hb9, -, -, e2, -, -⟩ := hsl.sec hat
      simp only [Option.some.injEq, Addr.mk.injEq] at hA9
      obtain ⟨rfl, rfl, -⟩ := hA9
      rw [Nat.zero_add] at e2
      have hi0 : (0 : Int) ≤ (i : Int) := by omega
      have hi1 : (i : Int) < (n : Int) := by omega
      obtain ⟨c13, f13, l13⟩ := k13.rules
      have fr9 := hown.frozenAt (i * 5 + 2)
      by_cases hb0 : x.bird = 0
      · have hsame := Lib.hid (birdsTo_same (m := m) hx hb0)
        rw [hb0] at e2
        replace hx := Lib.hid hx
        replace hat := Lib.hid hat
        replace hbl := Lib.hid hbl
        clear hb0
        go_wp2_with fail
        go_roundw
        case rel => exact ⟨i + 1, by go_num, by omega, k13, by rw [hsame.out]; exact hown, hbq⟩
        case measure => simp [intOf]; omega
      · have hset := Lib.hid (birdsTo_set (m := m) hx)
        have hbe : birdS m x = { x with bird := m } := by rw [birdS, if_neg hb0]
        have hfs := flat_set (enc := Sec.cells) (s := 5) (fun _ => rfl) (x := x) (y := birdS m x) (j := 2) (u := .int .i64 m) (by omega) (by rw [hbe]; rfl) (birdsTo s.secs m i) i hat
        have hown3 := (hown.stored (i * 5 + 2) (.int .i64 m)).1
        rw [hfs, ← hset.out] at hown3
        have k13c := k13.far (p := ⟨g, i * 5 + 2, none⟩) (show w.heap.size ≠ g by omega) (.int .i64 m)
        have hbd := hbq.setCell (p := ⟨g, i * 5 + 2, none⟩) (show w.heap.size ≤ g by omega) (.int .i64 m)
        have hnb : (x.bird != 0) = true := by rw [bne_iff_ne]; exact hb0
        replace hx := Lib.hid hx
        replace hat := Lib.hid hat
        replace hbl := Lib.hid hbl
        replace hfs := Lib.hid hfs
        replace hbe := Lib.hid hbe
        go_wp2_with fail
        go_roundw
        case rel => exact ⟨i + 1, by go_num, by omega, k13c, hown3, hbd⟩
        case measure => simp [intOf]; omega
    · obtain rfl : i = n := by omega
      have hall := birdsTo_all (m := m) hln.out
      rw [hall] at hown
      have hsl := (SlAt.own (enc := Sec.cells) hown (by omega) (s.secs.map (birdS m)) rfl (fun _ => rfl) (by rw [List.length_map]; exact hln.out)).mono (Nat.zero_le _)
      clear hall
      have hcall := hKp.out wr g pc hsl (hl0.out.below hbq) (hd0.out.below hbq) (hv0.out.below hbq)
      have k1w := k10.out.belowB hbq k10.out.lt
      have k2w := k20.out.belowB hbq k20.out.lt
      obtain ⟨c13, f13, l13⟩ := k13.rules
      obtain ⟨c1, f1, l1⟩ := k1w.rules
      obtain ⟨c2, f2, l2⟩ := k2w.rules
      go_wp2_with fail
      refine hcall.mono ?_
      rintro e W5 ⟨rfl, hbel⟩
      go_wp2
      go_ret2
      exact ⟨rfl, hbq.trans (hbel.mono hbq.size)⟩
set_option maxRecDepth 100000 in
set_option maxHeartbeats 8000000 in
theorem TowWeakest_any (s : Strm) (A O D V : Option Addr) (n c no co nd cd nv cv : Nat) (bs : List Bnd) (l : List Wat) (v : List Int) (i0 : Int) (w : World) (hs : SlAt w 0 5 Sec.cells A n c s.secs) (hl : SlAt w 0 2 Bnd.cells O no co bs) (hd : SlAt w 0 4 Wat.cells D nd cd l) (hv : SlAt w 0 1 ivs V nv cv v) :
    Calls Try.prog 13 #[.agg #[.int .i64 s.head, .slice A n c, .int .i64 s.lane.lo, .int .i64 s.lane.hi, .int .i64 s.bend, .slice O no co], .agg #[.slice D nd cd, .slice V nv cv], .int .i64 i0] w fun e w' => e = .returned (.bool true) ∧ Below w.heap.size w w' := by
  obtain ⟨w0, hw0⟩ : ∃ w0, w0 = w.alloc (.cells #[.int .i64 s.head, .slice A n c, .int .i64 s.lane.lo, .int .i64 s.lane.hi, .int .i64 s.bend, .slice O no co] 37) := ⟨_, rfl⟩
  have z0 : w0.heap.size = w.heap.size + 1 := by rw [hw0, World.size_alloc]
  obtain ⟨w1, hw1⟩ : ∃ w1, w1 = w0.alloc (.cells #[.slice D nd cd, .slice V nv cv] 64) := ⟨_, rfl⟩
  have k3 : Blk w1 w.heap.size 37 #[.int .i64 s.head, .slice A n c, .int .i64 s.lane.lo, .int .i64 s.lane.hi, .int .i64 s.bend, .slice O no co] := by rw [hw1, hw0]; exact (Blk.new _ _ _).alloc _
  have k4 : Blk w1 (w.heap.size + 1) 64 #[.slice D nd cd, .slice V nv cv] := by have := Blk.new w0 64 #[.slice D nd cd, .slice V nv cv]; rw [z0, ← hw1] at this; exact this
  have b : Below w.heap.size w w1 := by rw [hw1, hw0]; exact ((Below.refl _ _).alloc (Nat.le_refl _) _).alloc (by simp) _
  replace hs : SlAt w1 0 5 Sec.cells A n c s.secs := by rw [hw1, hw0]; exact (hs.alloc _).alloc _
  replace hl : SlAt w1 0 2 Bnd.cells O no co bs := by rw [hw1, hw0]; exact (hl.alloc _).alloc _
  replace hd : SlAt w1 0 4 Wat.cells D nd cd l := by rw [hw1, hw0]; exact (hd.alloc _).alloc _
  replace hv : SlAt w1 0 1 ivs V nv cv v := by rw [hw1, hw0]; exact (hv.alloc _).alloc _
  rw [hw0] at hw1
  clear hw0 z0
  have hWk := fun W h1 h2 h3 h4 => Weakest_any s A O D V n c no co nd cd nv cv bs l v W h1 h2 h3 h4
  by_cases he : errW s bs l v = 0
  · have hW := fun m h0 h1 W h2 h3 h4 h5 h6 h7 => with_any s A O D V n c no co nd cd nv cv w.heap.size (w.heap.size + 1) bs l v m W he h0 h1 h2 h3 h4 h5 h6 h7
    replace hW := Lib.hid hW
    rcases fstN_is (p := fun m : Nat => keepsS (birdsS s (m : Int)) bs l v) 1001 with ⟨q1, q2⟩ | ⟨k, q1, q2, q3, q4⟩
    · have e2 : weakR s bs l v = (0, 4) := by rw [weakR, if_pos he, weakS, q1, if_pos rfl]
      simp only [e2] at hWk
      have hr := restS_bd i0 (many := 1001) (by omega)
      obtain ⟨r, hr2⟩ : ∃ r : Nat, restS i0 1001 = r := ⟨(restS i0 1001).toNat, by omega⟩
      have hRe := fun W => Rest_any i0 1001 W (by omega)
      simp only [hr2] at hRe
      rw [hr2] at hr
      have hq := q2 r (by omega)
      have hW2 := hW.out (r : Int) (by omega) (by omega)
      try dsimp only at hq
      simp only [hq] at hW2
      clear q1 q2 e2 hq hr hr2 he
      go_enter Try.func13, Try.ntmps13
      go_wp2_with fail
      rw [← hw1]
      clear hw1
      refine (hWk _ hs hl hd hv).mono ?_
      clear hWk
      rintro e W ⟨rfl, hbel⟩
      replace k3 := k3.below hbel
      replace k4 := k4.below hbel
      replace b := b.trans (hbel.mono b.size)
      replace hs := hs.below hbel
      replace hl := hl.below hbel
      replace hd := hd.below hbel
      replace hv := hv.below hbel
      clear hbel
      go_wp2_with fail
      refine (hRe _).mono ?_
      rintro e W' ⟨rfl, rfl⟩
      clear hRe
      go_wp2_with fail
      refine (hW2 _ hs hl hd hv k3 k4).mono ?_
      clear hW2
      rintro e W ⟨rfl, hbel⟩
      replace k3 := k3.below hbel
      replace k4 := k4.below hbel
      replace b := b.trans (hbel.mono b.size)
      replace hs := hs.below hbel
      replace hl := hl.below hbel
      replace hd := hd.below hbel
      replace hv := hv.below hbel
      clear hbel
      go_wp2_with fail
      refine (works_any _).mono ?_
      rintro e W ⟨rfl, hbel⟩
      go_wp2
      go_ret
      exact ⟨rfl, b.trans (hbel.mono b.size)⟩
    · have e2 : weakR s bs l v = ((k : Int), 0) := by rw [weakR, if_pos he, weakS, q1, if_neg (by omega)]
      simp only [e2] at hWk
      have hW2 := hW.out (k : Int) (by omega) (by omega)
      try dsimp only at q3
      simp only [q3] at hW2
      have hBt := fun W => Between_any (k : Int) 0 1000 W
      simp only [decide_eq_true (show 0 ≤ (k : Int) ∧ (k : Int) ≤ 1000 by omega)] at hBt
      by_cases hk0 : k = 0
      · subst hk0
        rw [show ((0 : Nat) : Int) = 0 from rfl] at hWk hW2 hBt
        clear q1 q2 q3 q4 e2 he hW
        go_enter Try.func13, Try.ntmps13
        go_wp2_with fail
        rw [← hw1]
        clear hw1
        refine (hWk _ hs hl hd hv).mono ?_
        clear hWk
        rintro e W ⟨rfl, hbel⟩
        replace k3 := k3.below hbel
        replace k4 := k4.below hbel
        replace b := b.trans (hbel.mono b.size)
        replace hs := hs.below hbel
        replace hl := hl.below hbel
        replace hd := hd.below hbel
        replace hv := hv.below hbel
        clear hbel
        go_wp2_with fail
        refine (hW2 _ hs hl hd hv k3 k4).mono ?_
        clear hW2
        rintro e W ⟨rfl, hbel⟩
        replace k3 := k3.below hbel
        replace k4 := k4.below hbel
        replace b := b.trans (hbel.mono b.size)
        replace hs := hs.below hbel
        replace hl := hl.below hbel
        replace hd := hd.below hbel
        replace hv := hv.below hbel
        clear hbel
        go_wp2_with fail
        refine (hBt _).mono ?_
        rintro e W' ⟨rfl, rfl⟩
        clear hBt
        go_wp2_with fail
        refine (works_any _).mono ?_
        rintro e W ⟨rfl, hbel⟩
        go_wp2
        go_ret
        exact ⟨rfl, b.trans (hbel.mono b.size)⟩
      · have hr := restS_bd i0 (many := (k : Int)) (by omega)
        obtain ⟨r, hr2⟩ : ∃ r : Nat, restS i0 k = r := ⟨(restS i0 k).toNat, by omega⟩
        have hRe := fun W => Rest_any i0 (k : Int) W (by omega)
        simp only [hr2] at hRe
        rw [hr2] at hr
        have hq := q4 r (by omega)
        have hW3 := hW.out (r : Int) (by omega) (by omega)
        try dsimp only at hq
        simp only [hq] at hW3
        have hkz : ¬ ((k : Int) = 0) := by omega
        have hkz2 : ((k : Int) == 0) = false := by rw [beq_eq_false_iff_ne]; exact hkz
        clear q1 q2 q3 q4 e2 hq hr hr2 he hW
        go_enter Try.func13, Try.ntmps13
        go_wp2_with fail
        rw [← hw1]
        clear hw1
        refine (hWk _ hs hl hd hv).mono ?_
        clear hWk
        rintro e W ⟨rfl, hbel⟩
        replace k3 := k3.below hbel
        replace k4 := k4.below hbel
        replace b := b.trans (hbel.mono b.size)
        replace hs := hs.below hbel
        replace hl := hl.below hbel
        replace hd := hd.below hbel
        replace hv := hv.below hbel
        clear hbel
        go_wp2_with fail
        refine (hW2 _ hs hl hd hv k3 k4).mono ?_
        clear hW2
        rintro e W ⟨rfl, hbel⟩
        replace k3 := k3.below hbel
        replace k4 := k4.below hbel
        replace b := b.trans (hbel.mono b.size)
        replace hs := hs.below hbel
        replace hl := hl.below hbel
        replace hd := hd.below hbel
        replace hv := hv.below hbel
        clear hbel
        go_wp2_with fail
        refine (hBt _).mono ?_
        rintro e W' ⟨rfl, rfl⟩
        clear hBt
        go_wp2_with fail
        refine (hRe _).mono ?_
        rintro e W' ⟨rfl, rfl⟩
        clear hRe
        go_wp2_with fail
        refine (hW3 _ hs hl hd hv k3 k4).mono ?_
        clear hW3
        rintro e W ⟨rfl, hbel⟩
        replace k3 := k3.below hbel
        replace k4 := k4.below hbel
        replace b := b.trans (hbel.mono b.size)
        replace hs := hs.below hbel
        replace hl := hl.below hbel
        replace hd := hd.below hbel
        replace hv := hv.below hbel
        clear hbel
        go_wp2_with fail
        refine (works_any _).mono ?_
        rintro e W ⟨rfl, hbel⟩
        go_wp2
        go_ret
        exact ⟨rfl, b.trans (hbel.mono b.size)⟩
  · have e2 : weakR s bs l v = (0, errW s bs l v) := by rw [weakR, if_neg he]
    have hv4 := errW_vals s bs l v
    simp only [e2] at hWk
    generalize errW s bs l v = er at *
    have h0 : (er != 0) = true := by rw [bne_iff_ne]; exact he
    have h4 : (er != 4) = true := by rw [bne_iff_ne]; omega
    replace he := Lib.hid he
    clear e2 hv4
    go_enter Try.func13, Try.ntmps13
    go_wp2_with fail
    rw [← hw1]
    clear hw1
    refine (hWk _ hs hl hd hv).mono ?_
    clear hWk
    rintro e W ⟨rfl, hbel⟩
    replace k3 := k3.below hbel
    replace k4 := k4.below hbel
    replace b := b.trans (hbel.mono b.size)
    replace hs := hs.below hbel
    replace hl := hl.below hbel
    replace hd := hd.below hbel
    replace hv := hv.below hbel
    clear hbel
    go_wp2_with fail
    refine (works_any _).mono ?_
    rintro e W ⟨rfl, hbel⟩
    go_wp2
    go_ret
    exact ⟨rfl, b.trans (hbel.mono b.size)⟩
end Go.Proofs.Ytjiaepphnddpoaa
