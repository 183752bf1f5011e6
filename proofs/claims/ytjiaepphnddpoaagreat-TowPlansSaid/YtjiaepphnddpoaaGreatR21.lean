/-
  Walks: the specification's birds, Weakest, Fastest.
-/
import Derived.Test.YtjiaepphnddpoaaGreatR20
import Derived.Test.YtjiaepphnddpoaaGreatW13
namespace Go.Proofs.YtjiaepphnddpoaaGreat
open Go.RowKit Go.Shelf
set_option linter.unusedSimpArgs false
set_option linter.unusedVariables false

def birdsP (l : List Sec) (m : Int) (k : Nat) : List Sec := (l.take k).map (birdS m)
theorem birdsP_succ {l : List Sec} {m : Int} {k : Nat} {x : Sec} (h : l[k]? = some x) : birdsP l m (k + 1) = birdsP l m k ++ [birdS m x] := by
  unfold birdsP; rw [mapTake_succ _ h]
theorem birdsP_all {l : List Sec} {m : Int} {k : Nat} (h : l.length = k) : birdsP l m k = l.map (birdS m) := by
  unfold birdsP; rw [List.take_of_length_le (by rw [h]; exact Nat.le_refl _)]
set_option maxRecDepth 100000 in
set_option maxHeartbeats 2000000 in
theorem Rbirds_any (s : Strm) (m : Int) (A : Option Addr) (n c B : Nat) (w : World) (hn : n ≤ 1000000) (hs : SlAt w B 5 Sec.cells A n c s.secs) :
    Calls Tryz.prog 79 #[.agg #[.int .i64 s.head, .slice A n c, .int .i64 s.lane.lo, .int .i64 s.lane.hi, .int .i64 s.bend], .int .i64 m] w fun e w' => ∃ P pc, e = .returned (.agg #[.int .i64 s.head, .slice P n pc, .int .i64 s.lane.lo, .int .i64 s.lane.hi, .int .i64 s.bend]) ∧ SlAt w' w.heap.size 5 Sec.cells P n pc (s.secs.map (birdS m)) ∧ Below w.heap.size w w' := by
  have hl := Lib.hid hs.len
  obtain ⟨w1, hw1⟩ : ∃ w1, w1 = (w.alloc (.cells #[.int .i64 s.head, .slice A n c, .int .i64 s.lane.lo, .int .i64 s.lane.hi, .int .i64 s.bend] 26)).alloc (.cells #[.int .i64 0, .slice none 0 0, .int .i64 0, .int .i64 0, .int .i64 0] 26) := ⟨_, rfl⟩
  have k2 : Blk w1 w.heap.size 26 #[.int .i64 s.head, .slice A n c, .int .i64 s.lane.lo, .int .i64 s.lane.hi, .int .i64 s.bend] := by rw [hw1]; exact (Blk.new _ _ _).alloc _
  have k4 : Blk w1 (w.heap.size + 1) 26 #[.int .i64 0, .slice none 0 0, .int .i64 0, .int .i64 0, .int .i64 0] := by rw [hw1]; exact Blk.newAt (by simp)
  have b : Below w.heap.size w w1 := by rw [hw1]; exact ((Below.refl _ _).alloc (Nat.le_refl _) _).alloc (by simp) _
  have hz : w1.heap.size = w.heap.size + 2 := by rw [hw1]; simp
  replace hs : SlAt w1 B 5 Sec.cells A n c s.secs := by rw [hw1]; exact (hs.alloc _).alloc _
  obtain ⟨i0, hi0, hz0, hz1, hz2⟩ := info_parts Tryz.infoSec
  go_enter Tryz.func79, Tryz.ntmps79
  go_wp2_with fail
  rw [← hw1]
  clear hw1
  go_loopw [5, 6] (fun v i wr => ∃ k : Nat, i = .int .i64 k ∧ k ≤ n ∧ wr.ownsRow w1.heap.size 94 5 v k ((birdsP s.secs m k).flatMap Sec.cells) ∧ Below w1.heap.size w1 wr) (fun v i wr => n - (intOf i).toNat)
  case atStart => exact ⟨0, rfl, Nat.zero_le _, ⟨rfl, .inl ⟨rfl, rfl⟩⟩, Below.refl _ _⟩
  case round =>
    obtain ⟨k, rfl, hk, hown, hb⟩ := hrel
    have k2w := k2.below hb
    by_cases hlt : k < n
    · have hk0 : (0 : Int) ≤ (k : Int) := by omega
      have hk1 : (k : Int) < (n : Int) := by omega
      obtain ⟨x, hx⟩ := some_of_lt hl.out hlt
      have hnx := Lib.hid (birdsP_succ (m := m) hx)
      obtain ⟨bA, oA, hA, -, hbA, d0, d1, d2, d3, d4⟩ := (hs.below hb).sec hx
      subst hA
      replace hx := Lib.hid hx
      have hbig1 : Hid (k + 1 ≤ maxLen) := by show k + 1 ≤ maxLen; unfold maxLen; omega
      have hbig2 : Hid ((k + 1) * 40 ≤ 140737488355328) := by show (k + 1) * 40 ≤ 140737488355328; omega
      obtain ⟨c2, f2, l2⟩ := k2w.rules
      by_cases hb0 : x.bird = 0
      · have hcy : Hid (List.flatMap Sec.cells [birdS m x] = [.int .i64 x.len, .int .i64 x.fol, .int .i64 x.bird, .int .i64 x.drag, .int .i64 x.cap]) := by show _ = _; rw [birdS, if_pos hb0]; rfl
        have hb0' : (x.bird != 0) = false := by rw [hb0]; rfl
        replace hb0 := Lib.hid hb0
        have hown1 := hown.alloc (.cells #[.int .i64 x.len, .int .i64 x.fol, .int .i64 x.bird, .int .i64 x.drag, .int .i64 x.cap] 94)
        have hownf := hown1.alloc (.cells #[.int .i64 x.len, .int .i64 x.fol, .int .i64 x.bird, .int .i64 x.drag, .int .i64 x.cap] 94)
        have hb1 := hb.alloc hb.size (.cells #[.int .i64 x.len, .int .i64 x.fol, .int .i64 x.bird, .int .i64 x.drag, .int .i64 x.cap] 94)
        have hbf := hb1.alloc hb1.size (.cells #[.int .i64 x.len, .int .i64 x.fol, .int .i64 x.bird, .int .i64 x.drag, .int .i64 x.cap] 94)
        have hnews : ∀ (j : Nat) (u : Value), ([.int .i64 x.len, .int .i64 x.fol, .int .i64 x.bird, .int .i64 x.drag, .int .i64 x.cap] : List Value)[j]? = some u → ((wr.alloc (.cells #[.int .i64 x.len, .int .i64 x.fol, .int .i64 x.bird, .int .i64 x.drag, .int .i64 x.cap] 94)).alloc (.cells #[.int .i64 x.len, .int .i64 x.fol, .int .i64 x.bird, .int .i64 x.drag, .int .i64 x.cap] 94)).cell? ((⟨wr.heap.size + 1, 0, none⟩ : Addr).add j) = some u :=
          World.news_of_block (cs := #[.int .i64 x.len, .int .i64 x.fol, .int .i64 x.bird, .int .i64 x.drag, .int .i64 x.cap]) (t := 94) (fr := (0, 0)) (by have := World.alloc_heap_new (wr.alloc (.cells #[.int .i64 x.len, .int .i64 x.fol, .int .i64 x.bird, .int .i64 x.drag, .int .i64 x.cap] 94)) (.cells #[.int .i64 x.len, .int .i64 x.fol, .int .i64 x.bird, .int .i64 x.drag, .int .i64 x.cap] 94); rw [World.size_alloc] at this; exact this)
        go_wp2_with (at_builtin; refine wpList_append_lies _ rfl (.tmp 25) (.tmp 27) 22 rfl w1.heap.size 94 i0 (.agg #[.int .i64 0, .int .i64 0, .int .i64 0, .int .i64 0, .int .i64 0]) 5 40 Tryz.underlying22 hi0 hz0 hz1 hz2 rfl (by decide) u5 k ((birdsP s.secs m k).flatMap Sec.cells) rfl hownf ⟨wr.heap.size + 1, 0, none⟩ 1 1 [.int .i64 x.len, .int .i64 x.fol, .int .i64 x.bird, .int .i64 x.drag, .int .i64 x.cap] rfl rfl hnews (by simp [Value.oneCell']) (by decide) hbig1.out hbig2.out hbf.size (wr.heap.size + 1 + 1) (by simp) ?_; intro g cap w7 hown7 hgrow hlies hlt7)
        have hbg : Below w1.heap.size _ w7 := ⟨hgrow.os, hgrow.tape, hgrow.output, hgrow.size, fun b hb2 => hgrow.block b (Nat.lt_of_lt_of_le hb2 hbf.size) (fun e => by have := (hownf.lt _ e.symm).1; omega)⟩
        have hbh := hbf.trans hbg
        go_roundw
        case rel =>
          refine ⟨k + 1, by go_num, by omega, ?_, hbh⟩
          rw [hnx.out, List.flatMap_append]
          have e9 : List.flatMap Sec.cells [birdS m x] = [.int .i64 x.len, .int .i64 x.fol, .int .i64 x.bird, .int .i64 x.drag, .int .i64 x.cap] := hcy.out
          rw [e9]
          exact hown7
        case measure => simp [intOf]; omega
      · have hcy : Hid (List.flatMap Sec.cells [birdS m x] = [.int .i64 x.len, .int .i64 x.fol, .int .i64 m, .int .i64 x.drag, .int .i64 x.cap]) := by show _ = _; rw [birdS, if_neg hb0]; rfl
        have hb0' : (x.bird != 0) = true := by rw [bne_iff_ne]; exact hb0
        replace hb0 := Lib.hid hb0
        have hown1 := hown.alloc (.cells #[.int .i64 x.len, .int .i64 x.fol, .int .i64 m, .int .i64 x.drag, .int .i64 x.cap] 94)
        have hownf := hown1.alloc (.cells #[.int .i64 x.len, .int .i64 x.fol, .int .i64 m, .int .i64 x.drag, .int .i64 x.cap] 94)
        have hb1 := hb.alloc hb.size (.cells #[.int .i64 x.len, .int .i64 x.fol, .int .i64 m, .int .i64 x.drag, .int .i64 x.cap] 94)
        have hbf := hb1.alloc hb1.size (.cells #[.int .i64 x.len, .int .i64 x.fol, .int .i64 m, .int .i64 x.drag, .int .i64 x.cap] 94)
        have hnews : ∀ (j : Nat) (u : Value), ([.int .i64 x.len, .int .i64 x.fol, .int .i64 m, .int .i64 x.drag, .int .i64 x.cap] : List Value)[j]? = some u → ((wr.alloc (.cells #[.int .i64 x.len, .int .i64 x.fol, .int .i64 m, .int .i64 x.drag, .int .i64 x.cap] 94)).alloc (.cells #[.int .i64 x.len, .int .i64 x.fol, .int .i64 m, .int .i64 x.drag, .int .i64 x.cap] 94)).cell? ((⟨wr.heap.size + 1, 0, none⟩ : Addr).add j) = some u :=
          World.news_of_block (cs := #[.int .i64 x.len, .int .i64 x.fol, .int .i64 m, .int .i64 x.drag, .int .i64 x.cap]) (t := 94) (fr := (0, 0)) (by have := World.alloc_heap_new (wr.alloc (.cells #[.int .i64 x.len, .int .i64 x.fol, .int .i64 m, .int .i64 x.drag, .int .i64 x.cap] 94)) (.cells #[.int .i64 x.len, .int .i64 x.fol, .int .i64 m, .int .i64 x.drag, .int .i64 x.cap] 94); rw [World.size_alloc] at this; exact this)
        go_wp2_with (at_builtin; refine wpList_append_lies _ rfl (.tmp 25) (.tmp 27) 22 rfl w1.heap.size 94 i0 (.agg #[.int .i64 0, .int .i64 0, .int .i64 0, .int .i64 0, .int .i64 0]) 5 40 Tryz.underlying22 hi0 hz0 hz1 hz2 rfl (by decide) u5 k ((birdsP s.secs m k).flatMap Sec.cells) rfl hownf ⟨wr.heap.size + 1, 0, none⟩ 1 1 [.int .i64 x.len, .int .i64 x.fol, .int .i64 m, .int .i64 x.drag, .int .i64 x.cap] rfl rfl hnews (by simp [Value.oneCell']) (by decide) hbig1.out hbig2.out hbf.size (wr.heap.size + 1 + 1) (by simp) ?_; intro g cap w7 hown7 hgrow hlies hlt7)
        have hbg : Below w1.heap.size _ w7 := ⟨hgrow.os, hgrow.tape, hgrow.output, hgrow.size, fun b hb2 => hgrow.block b (Nat.lt_of_lt_of_le hb2 hbf.size) (fun e => by have := (hownf.lt _ e.symm).1; omega)⟩
        have hbh := hbf.trans hbg
        go_roundw
        case rel =>
          refine ⟨k + 1, by go_num, by omega, ?_, hbh⟩
          rw [hnx.out, List.flatMap_append]
          have e9 : List.flatMap Sec.cells [birdS m x] = [.int .i64 x.len, .int .i64 x.fol, .int .i64 m, .int .i64 x.drag, .int .i64 x.cap] := hcy.out
          rw [e9]
          exact hown7
        case measure => simp [intOf]; omega
    · obtain rfl : n = k := by omega
      obtain ⟨P, pc, rfl, hP⟩ := SlAt.of_own (enc := Sec.cells) hown (by omega) (birdsP s.secs m n) rfl (fun _ => rfl) (by rw [birdsP_all hl.out, List.length_map]; exact hl.out)
      rw [birdsP_all hl.out] at hP
      have k4w := k4.below hb
      have bw := b.trans (hb.mono b.size)
      have hsz := hb.size
      clear hown k2 k4 b
      have k2a := k2w.set_ 1 (.slice P n pc)
      simp only [List.setIfInBounds_toArray, List.set_cons_zero, List.set_cons_succ] at k2a
      have k4a := k4w.far (p := ⟨w.heap.size, 1, none⟩) (show w.heap.size + 1 ≠ w.heap.size by omega) (.slice P n pc)
      have ba := bw.setCell (p := ⟨w.heap.size, 1, none⟩) (Nat.le_refl _) (.slice P n pc)
      have hPa := hP.setCell (p := ⟨w.heap.size, 1, none⟩) (show w.heap.size < w1.heap.size by omega) (.slice P n pc)
      have kz := ((((k4a.set_ 0 (.int .i64 s.head)).set_ 1 (.slice P n pc)).set_ 2 (.int .i64 s.lane.lo)).set_ 3 (.int .i64 s.lane.hi)).set_ 4 (.int .i64 s.bend)
      simp only [List.setIfInBounds_toArray, List.set_cons_zero, List.set_cons_succ] at kz
      have bz := ((((ba.setCell (p := ⟨w.heap.size + 1, 0, none⟩) (by dsimp only; omega) (.int .i64 s.head)).setCell (p := ⟨w.heap.size + 1, 1, none⟩) (by dsimp only; omega) (.slice P n pc)).setCell (p := ⟨w.heap.size + 1, 2, none⟩) (by dsimp only; omega) (.int .i64 s.lane.lo)).setCell (p := ⟨w.heap.size + 1, 3, none⟩) (by dsimp only; omega) (.int .i64 s.lane.hi)).setCell (p := ⟨w.heap.size + 1, 4, none⟩) (by dsimp only; omega) (.int .i64 s.bend)
      have hPz := ((((hPa.setCell (p := ⟨w.heap.size + 1, 0, none⟩) (by dsimp only; omega) (.int .i64 s.head)).setCell (p := ⟨w.heap.size + 1, 1, none⟩) (by dsimp only; omega) (.slice P n pc)).setCell (p := ⟨w.heap.size + 1, 2, none⟩) (by dsimp only; omega) (.int .i64 s.lane.lo)).setCell (p := ⟨w.heap.size + 1, 3, none⟩) (by dsimp only; omega) (.int .i64 s.lane.hi)).setCell (p := ⟨w.heap.size + 1, 4, none⟩) (by dsimp only; omega) (.int .i64 s.bend)
      obtain ⟨wz, hwz⟩ : ∃ q, q = (((((wr.setCell ⟨w.heap.size, 1, none⟩ (.slice P n pc)).setCell ⟨w.heap.size + 1, 0, none⟩ (.int .i64 s.head)).setCell ⟨w.heap.size + 1, 1, none⟩ (.slice P n pc)).setCell ⟨w.heap.size + 1, 2, none⟩ (.int .i64 s.lane.lo)).setCell ⟨w.heap.size + 1, 3, none⟩ (.int .i64 s.lane.hi)).setCell ⟨w.heap.size + 1, 4, none⟩ (.int .i64 s.bend) := ⟨_, rfl⟩
      rw [← hwz] at kz bz hPz
      obtain ⟨c2, f2, l2⟩ := k2w.rules
      obtain ⟨c4, f4, l4⟩ := k4w.rules
      go_wp2
      rw [← hwz]
      clear hwz c4 f4 l4 c2 f2 l2
      obtain ⟨c4, f4, l4⟩ := kz.rules
      exact bodyPost_ret (v := .agg #[.int .i64 s.head, .slice P n pc, .int .i64 s.lane.lo, .int .i64 s.lane.hi, .int .i64 s.bend]) (by simp [results, Tryz.results79, go_sem, c4]) rfl ⟨P, pc, rfl, hPz.mono (by omega), bz⟩
set_option maxRecDepth 100000 in
set_option maxHeartbeats 1000000 in
theorem RWeakest_any (s : Strm) (A O D V : Option Addr) (n c no co nd cd nv cv : Nat) (bs : List Bnd) (l : List Wat) (v : List Int) (w : World) (hs : SlAt w 0 5 Sec.cells A n c s.secs) (hl : SlAt w 0 2 Bnd.cells O no co bs) (hd : SlAt w 0 4 Wat.cells D nd cd l) (hv : SlAt w 0 1 ivs V nv cv v) :
    Calls Tryz.prog 26 #[.agg #[.int .i64 s.head, .slice A n c, .int .i64 s.lane.lo, .int .i64 s.lane.hi, .int .i64 s.bend], .slice O no co, .slice D nd cd, .slice V nv cv] w fun e w' =>
      e = .returned (.tuple #[.int .i64 (weakR s bs l v).1, .int .i64 (weakR s bs l v).2]) ∧ Below w.heap.size w w' := by
  have has := fun W h1 h2 h3 h4 => Rasked_any s A O D V n c no co nd cd nv cv bs l v W h1 h2 h3 h4
  obtain ⟨w1, hw1⟩ : ∃ w1, w1 = w.alloc (.cells #[.int .i64 s.head, .slice A n c, .int .i64 s.lane.lo, .int .i64 s.lane.hi, .int .i64 s.bend] 26) := ⟨_, rfl⟩
  have k4 : Blk w1 w.heap.size 26 #[.int .i64 s.head, .slice A n c, .int .i64 s.lane.lo, .int .i64 s.lane.hi, .int .i64 s.bend] := by rw [hw1]; exact Blk.new _ _ _
  have b : Below w.heap.size w w1 := by rw [hw1]; exact (Below.refl _ _).alloc (Nat.le_refl _) _
  replace hs : SlAt w1 0 5 Sec.cells A n c s.secs := by rw [hw1]; exact hs.alloc _
  replace hl : SlAt w1 0 2 Bnd.cells O no co bs := by rw [hw1]; exact hl.alloc _
  replace hd : SlAt w1 0 4 Wat.cells D nd cd l := by rw [hw1]; exact hd.alloc _
  replace hv : SlAt w1 0 1 ivs V nv cv v := by rw [hw1]; exact hv.alloc _
  by_cases h1 : errW s bs l v = 0
  · obtain ⟨o1, o2, o3, o4, o5, o6⟩ := errW_zero h1
    have hno : no = n := by have := okOffs_len o2; have := hs.len; have := hl.len; omega
    have hnv : nv = nd := by have := hv.len; have := hd.len; omega
    subst hno
    subst hnv
    have hnd : nv ≤ 48 := by have := errW_wats h1; have := hd.len; omega
    have hn8 : no ≤ 8 := by have := ok_head o1; unfold headOk at this; have := hs.len; omega
    have hbi := fun (k : Nat) W h => Rbirds_any s (k : Int) A no c 0 W (by omega) h
    have hkeep : ∀ (m : Nat) (W : World) (P : Option Addr) (pc : Nat), m ≤ 1000 → SlAt W 0 5 Sec.cells P no pc (s.secs.map (birdS m)) → SlAt W 0 2 Bnd.cells O no co bs → SlAt W 0 4 Wat.cells D nv cd l → SlAt W 0 1 ivs V nv cv v →
        Calls Tryz.prog 53 #[.agg #[.int .i64 s.head, .slice P no pc, .int .i64 s.lane.lo, .int .i64 s.lane.hi, .int .i64 s.bend], .slice O no co, .slice D nv cd, .slice V nv cv] W fun e w' =>
          e = .returned (.bool (keepsS (birdsS s (m : Int)) bs l v)) ∧ Below W.heap.size W w' :=
      fun m W P pc hm h1 h2 h3 h4 => Rkeeps_any (birdsS s m) P O D V no pc co nv cd cv bs l v W (birds_ok o1 (by omega) (by omega)) (birds_offs o2) o3 o4 hnd h1 h2 h3 h4
    obtain ⟨p, hp⟩ : ∃ p : Nat → Bool, p = fun m : Nat => keepsS (birdsS s (m : Int)) bs l v := ⟨_, rfl⟩
    have hyes : Hid (∀ k, k ≤ 1000 → noneB p k → p k = true → weakR s bs l v = ((k : Int), 0)) := by
      show ∀ _, _
      intro k hk hz hpk
      have e : weakS s bs l v = k := by unfold weakS; rw [← hp]; exact fstN_first hz hpk 1001 (by omega)
      rw [weakR, if_pos h1, e, if_neg (by omega)]
    have hnone : Hid (noneB p 1001 → weakR s bs l v = (0, 4)) := by
      show _ → _
      intro hz
      have e : weakS s bs l v = -1 := by unfold weakS; rw [← hp]; exact (fstN_none 1001).2 hz
      rw [weakR, if_pos h1, e, if_pos rfl]
    have hke : ∀ m, keepsS (birdsS s ((m : Nat) : Int)) bs l v = p m := fun m => by rw [hp]
    simp only [hke] at hkeep
    simp only [h1] at has
    replace hkeep := Lib.hid hkeep
    replace hbi := Lib.hid hbi
    clear hp hke
    obtain ⟨⟨r1, r2⟩, hr⟩ : ∃ r, r = weakR s bs l v := ⟨_, rfl⟩
    rw [← hr] at hyes hnone ⊢
    dsimp only
    clear hr h1 o6 o1 o2 o3 o4 o5
    go_enter Tryz.func26, Tryz.ntmps26
    go_wp2_with fail
    rw [← hw1]
    clear hw1
    refine (has _ hs hl hd hv).mono ?_
    rintro e W ⟨rfl, hbel⟩
    clear has
    replace k4 := k4.below hbel
    replace b := b.trans (hbel.mono b.size)
    replace hs := hs.below hbel
    replace hl := hl.below hbel
    replace hd := hd.below hbel
    replace hv := hv.below hbel
    clear hbel
    go_wp2_with fail
    go_loopw [11] (fun j wr => ∃ k : Nat, j = .int .i64 k ∧ k ≤ 1001 ∧ noneB p k ∧ Below W.heap.size W wr) (fun j wr => 1001 - (intOf j).toNat)
    case atStart => exact ⟨0, rfl, Nat.zero_le _, fun m hm => by omega, Below.refl _ _⟩
    case round =>
      obtain ⟨k, rfl, hk, hz, hb⟩ := hrel
      replace hz := Lib.hid hz
      by_cases hlt : k < 1001
      · have hk1 : (k : Int) ≤ 1000 := by omega
        have hk0 : (0 : Int) ≤ (k : Int) := by omega
        have hbel := hb
        replace k4 := k4.below hbel
        replace b := b.trans (hbel.mono b.size)
        replace hs := hs.below hbel
        replace hl := hl.below hbel
        replace hd := hd.below hbel
        replace hv := hv.below hbel
        clear hbel
        obtain ⟨c4, f4, l4⟩ := k4.rules
        go_wp2_with fail
        clear c4 f4 l4
        refine (hbi.out k _ hs).mono ?_
        rintro e W2 ⟨P, pc, rfl, hP, hbel⟩
        replace hP := hP.mono (Nat.zero_le _)
        replace hb := hb.trans (hbel.mono hb.size)
        replace k4 := k4.below hbel
        replace b := b.trans (hbel.mono b.size)
        replace hs := hs.below hbel
        replace hl := hl.below hbel
        replace hd := hd.below hbel
        replace hv := hv.below hbel
        clear hbel
        have hcall := hkeep.out k _ P pc (by omega) hP hl hd hv
        cases hpk : p k with
        | true =>
          have hv2 := hyes.out k (by omega) hz.out hpk
          simp only [Prod.mk.injEq] at hv2
          obtain ⟨rfl, rfl⟩ := hv2
          rw [hpk] at hcall
          replace hpk := Lib.hid hpk
          go_wp2_with fail
          refine hcall.mono ?_
          rintro e W5 ⟨rfl, hbel⟩
          go_wp2
          go_ret2
          exact ⟨rfl, b.trans (hbel.mono b.size)⟩
        | false =>
          have hz2 := noneB_succ hz.out hpk
          rw [hpk] at hcall
          replace hpk := Lib.hid hpk
          replace hz2 := Lib.hid hz2
          go_wp2_with fail
          refine hcall.mono ?_
          rintro e W5 ⟨rfl, hbel⟩
          go_wp2_with fail
          go_roundw
          case rel => exact ⟨k + 1, by go_num, by omega, hz2.out, hb.trans (hbel.mono hb.size)⟩
          case measure => simp [intOf]; omega
      · obtain rfl : k = 1001 := by omega
        have hv2 := hnone.out hz.out
        simp only [Prod.mk.injEq] at hv2
        obtain ⟨rfl, rfl⟩ := hv2
        go_wp2
        go_ret2
        exact ⟨rfl, b.trans (hb.mono b.size)⟩
  · have e1 : weakR s bs l v = (0, errW s bs l v) := by rw [weakR, if_neg h1]
    rw [e1]
    generalize errW s bs l v = er at *
    have h1' : (er != 0) = true := by rw [bne_iff_ne]; exact h1
    replace h1 := Lib.hid h1
    dsimp only
    clear e1
    go_enter Tryz.func26, Tryz.ntmps26
    go_wp2_with fail
    rw [← hw1]
    clear hw1
    refine (has _ hs hl hd hv).mono ?_
    rintro e W ⟨rfl, hbel⟩
    go_wp2
    go_ret2
    exact ⟨rfl, b.trans (hbel.mono b.size)⟩
def RetFast0 (r : List Int × Int × Int) (w : World) (e : Ending) (w' : World) : Prop :=
  ∃ P np pc, e = .returned (.tuple #[.slice P np pc, .int .i64 r.2.1, .int .i64 r.2.2]) ∧ SlAt w' 0 1 ivs P np pc r.1 ∧ Below w.heap.size w w'
theorem RetFast0.none_ {er : Int} {w w' : World} (hb : Below w.heap.size w w') : RetFast0 ([], 0, er) w (.returned (.tuple #[.slice none 0 0, .int .i64 0, .int .i64 er])) w' := ⟨none, 0, 0, rfl, SlAt.nil _ _ _ _, hb⟩
set_option maxRecDepth 100000 in
set_option maxHeartbeats 1000000 in
theorem RFastest_any (s : Strm) (A O D V : Option Addr) (n c no co nd cd nv cv : Nat) (bs : List Bnd) (l : List Wat) (v : List Int) (w : World) (hs : SlAt w 0 5 Sec.cells A n c s.secs) (hl : SlAt w 0 2 Bnd.cells O no co bs) (hd : SlAt w 0 4 Wat.cells D nd cd l) (hv : SlAt w 0 1 ivs V nv cv v) :
    Calls Tryz.prog 23 #[.agg #[.int .i64 s.head, .slice A n c, .int .i64 s.lane.lo, .int .i64 s.lane.hi, .int .i64 s.bend], .slice O no co, .slice D nd cd, .slice V nv cv] w (RetFast0 (fastR s bs l v) w) := by
  have hbg := fun W h1 h2 => Rbegun_any s A O n c no co 0 0 bs W h1 h2
  have hwt := fun W h => RWaters_any D nd cd 0 l W h
  have hb1 := fun W => Between_any (nd : Int) 1 6 W
  have hb2 := fun W => Between_any (nv : Int) 1 4 W
  have hfa := fun W h => Rfast_any V nv cv 0 v W h
  obtain ⟨w1, hw1⟩ : ∃ w1, w1 = w.alloc (.cells #[.int .i64 s.head, .slice A n c, .int .i64 s.lane.lo, .int .i64 s.lane.hi, .int .i64 s.bend] 26) := ⟨_, rfl⟩
  have k4 : Blk w1 w.heap.size 26 #[.int .i64 s.head, .slice A n c, .int .i64 s.lane.lo, .int .i64 s.lane.hi, .int .i64 s.bend] := by rw [hw1]; exact Blk.new _ _ _
  have b : Below w.heap.size w w1 := by rw [hw1]; exact (Below.refl _ _).alloc (Nat.le_refl _) _
  replace hs : SlAt w1 0 5 Sec.cells A n c s.secs := by rw [hw1]; exact hs.alloc _
  replace hl : SlAt w1 0 2 Bnd.cells O no co bs := by rw [hw1]; exact hl.alloc _
  replace hd : SlAt w1 0 4 Wat.cells D nd cd l := by rw [hw1]; exact hd.alloc _
  replace hv : SlAt w1 0 1 ivs V nv cv v := by rw [hw1]; exact hv.alloc _
  have hdl := hd.len
  have hvl := hv.len
  by_cases h1 : errB s bs = 0
  · simp only [h1] at hbg
    by_cases h2 : okWats l = true
    · have hcw : chkWats l = 0 := by rw [chkWats, if_pos h2]
      have hbw : errBW s bs l = 0 := by rw [errBW, if_pos h1]; exact hcw
      simp only [hcw] at hwt
      by_cases h3 : 1 ≤ l.length ∧ l.length ≤ 6
      · simp only [decide_eq_true (show 1 ≤ (nd : Int) ∧ (nd : Int) ≤ 6 by omega)] at hb1
        by_cases h4 : 1 ≤ v.length ∧ v.length ≤ 4
        · simp only [decide_eq_true (show 1 ≤ (nv : Int) ∧ (nv : Int) ≤ 4 by omega)] at hb2
          cases h5 : okSpeeds v with
          | false =>
            have hv1 : fastR s bs l v = ([], 0, 34) := by rw [fastR, if_neg (by simp [hbw]), if_neg (by simp only [Decidable.not_not]; omega), if_pos h5]
            rw [hv1]
            simp only [h5] at hfa
            clear h1 h2 h3 h4 h5 hv1 hcw hbw hdl hvl
            go_enter Tryz.func23, Tryz.ntmps23
            go_wp2_with fail
            rw [← hw1]
            clear hw1
            refine (hbg _ hs hl).mono ?_
            rintro e W ⟨rfl, hbel⟩
            clear hbg
            replace k4 := k4.below hbel
            replace b := b.trans (hbel.mono b.size)
            replace hs := hs.below hbel
            replace hl := hl.below hbel
            replace hd := hd.below hbel
            replace hv := hv.below hbel
            clear hbel
            go_wp2_with fail
            refine (hwt _ hd).mono ?_
            rintro e W ⟨rfl, hbel⟩
            clear hwt
            replace k4 := k4.below hbel
            replace b := b.trans (hbel.mono b.size)
            replace hs := hs.below hbel
            replace hl := hl.below hbel
            replace hd := hd.below hbel
            replace hv := hv.below hbel
            clear hbel
            go_wp2_with fail
            refine (hb1 _).mono ?_
            rintro e w' ⟨rfl, rfl⟩
            go_wp2_with fail
            refine (hb2 _).mono ?_
            rintro e w' ⟨rfl, rfl⟩
            go_wp2_with fail
            refine (hfa _ hv).mono ?_
            rintro e w' ⟨rfl, rfl⟩
            go_wp2
            go_ret3
            exact RetFast0.none_ b
          | true =>
            have hv1 := fast_search hbw (by omega) h5
            rw [hv1]
            obtain ⟨e1, e2⟩ := errB_zero h1
            have hno : no = n := by have := okOffs_len e2; have := hs.len; have := hl.len; omega
            subst hno
            have hwl : l.all okWat = true := by unfold okWats at h2; simp only [Bool.and_eq_true] at h2; exact h2.2
            have hT := fun g W h1 h2 => Rtry_any (s := s) (A := A) (O := O) (D := D) (C := V) (n := no) (c := c) (co := co) (nd := nd) (cd := cd) (nc := nv) (cc := cv) (g := g) (bs := bs) (l := l) (ch := v) e1 e2 hwl h5 (by omega) (by omega) nd 0 [] none none none 0 0 W rfl (by omega) h1 h2 (SlAt.nil _ _ _ _) (SlAt.nil _ _ _ _) (Or.inr ⟨rfl, rfl, rfl⟩) (Or.inr ⟨rfl, rfl, rfl⟩) (OffA.zero _ _) (OffA.zero _ _)
            rw [hdl]
            simp only [h5] at hfa
            generalize searchS s bs l v nd [] none = r at *
            replace hT := Lib.hid hT
            clear h1 h2 h3 h4 h5 hv1 hcw hbw hdl hvl e1 e2 hwl
            go_enter Tryz.func23, Tryz.ntmps23
            go_wp2_with fail
            rw [← hw1]
            clear hw1
            refine (hbg _ hs hl).mono ?_
            rintro e W ⟨rfl, hbel⟩
            clear hbg
            replace k4 := k4.below hbel
            replace b := b.trans (hbel.mono b.size)
            replace hs := hs.below hbel
            replace hl := hl.below hbel
            replace hd := hd.below hbel
            replace hv := hv.below hbel
            clear hbel
            go_wp2_with fail
            refine (hwt _ hd).mono ?_
            rintro e W ⟨rfl, hbel⟩
            clear hwt
            replace k4 := k4.below hbel
            replace b := b.trans (hbel.mono b.size)
            replace hs := hs.below hbel
            replace hl := hl.below hbel
            replace hd := hd.below hbel
            replace hv := hv.below hbel
            clear hbel
            go_wp2_with fail
            refine (hb1 _).mono ?_
            rintro e w' ⟨rfl, rfl⟩
            go_wp2_with fail
            refine (hb2 _).mono ?_
            rintro e w' ⟨rfl, rfl⟩
            go_wp2_with fail
            refine (hfa _ hv).mono ?_
            rintro e w' ⟨rfl, rfl⟩
            clear hb1 hb2 hfa
            obtain ⟨c4, f4, l4⟩ := k4.rules
            go_wp2_with fail
            clear c4 f4 l4
            have hin : RaceIn s A O D V no c co nd cd nv cv W.heap.size bs l v W := ⟨⟨hs, OffA.below hs (Nat.le_refl _)⟩, ⟨hl, OffA.below hl (Nat.le_refl _)⟩, ⟨hd, OffA.below hd (Nat.le_refl _)⟩, hv, OffA.below hv (Nat.le_refl _)⟩
            have hbel := (Below.refl W.heap.size W).alloc (Nat.le_refl _) (.cells #[.int .i64 s.head, .slice A no c, .int .i64 s.lane.lo, .int .i64 s.lane.hi, .int .i64 s.bend, .slice O no co, .slice D nd cd, .slice V nv cv, .slice none 0 0, .int .i64 0, .bool false] 134)
            have hat : RaceAt s A O D V no c co nd cd nv cv W.heap.size v none (W.alloc (.cells #[.int .i64 s.head, .slice A no c, .int .i64 s.lane.lo, .int .i64 s.lane.hi, .int .i64 s.bend, .slice O no co, .slice D nd cd, .slice V nv cv, .slice none 0 0, .int .i64 0, .bool false] 134)) := ⟨none, 0, 0, Blk.new _ _ _, SlAt.nil _ _ _ _, OffA.zero _ _⟩
            replace hin := hin.below hbel
            have hsz := b.size
            replace b := b.trans (hbel.mono b.size)
            clear hbel k4 hs hl hd hv
            refine (hT.out _ _ hin hat).mono ?_
            rintro e W2 ⟨rfl, ha1, ha2⟩
            replace b := b.trans (ha2.low.mono hsz)
            clear hin hat hT
            obtain ⟨P, np, pc, kk, hP, -⟩ := ha1
            generalize W.heap.size = g at *
            clear ha2
            cases r with
            | none =>
              obtain ⟨c1, f1, l1⟩ := kk.rules
              simp only [wayS, Option.isSome_none] at c1
              go_wp2
              go_ret3
              exact RetFast0.none_ b
            | some p =>
              simp only [wayS, Option.isSome_some, Option.getD_some] at kk hP
              have hfo : Hid (foundR v (some p) = (p, sumL (speedsOf v p), 0)) := rfl
              generalize sumL (speedsOf v p) = sm at *
              obtain ⟨c1, f1, l1⟩ := kk.rules
              go_wp2_with fail
              clear c1 f1 l1
              refine wp_held_np (fun w' : World => ∀ j, w'.cell? ⟨g, j, none⟩ = #[Value.int .i64 s.head, .slice A no c, .int .i64 s.lane.lo, .int .i64 s.lane.hi, .int .i64 s.bend, .slice O no co, .slice D nd cd, .slice V nv cv, .slice P np pc, .int .i64 sm, .bool true][j]?) (by kernel_rfl) ?_
              have hbel : Below W2.heap.size W2 W2.drew := (Below.refl _ _).drew
              replace kk := kk.below hbel
              replace hP := hP.below hbel
              replace b := b.trans (hbel.mono b.size)
              clear hbel
              generalize W2.drew = W3 at *
              have hS : (fun w' : World => ∀ j, w'.cell? ⟨g, j, none⟩ = #[Value.int .i64 s.head, .slice A no c, .int .i64 s.lane.lo, .int .i64 s.lane.hi, .int .i64 s.bend, .slice O no co, .slice D nd cd, .slice V nv cv, .slice P np pc, .int .i64 sm, .bool true][j]?) W3 := kk.cell
              refine held_take (i := 0) (v := ?_) 51 rfl rfl (by kernel_rfl) (by kernel_rfl) (by kernel_rfl) (fun _ _ _ h => h) (Or.inl ⟨by rfl, ?_⟩) hS ?_
              rotate_left 1
              · intro w' hSw
                try dsimp only at hSw
                obtain q1 := hSw
                go_simp
                all_goals with_reducible rfl
              try simp only [Act.put, List.setIfInBounds_toArray, List.set_cons_zero, List.set_cons_succ]
              refine held_take (i := 1) (v := ?_) 52 rfl rfl (by kernel_rfl) (by kernel_rfl) (by kernel_rfl) (fun _ _ _ h => h) (Or.inl ⟨by rfl, ?_⟩) hS ?_
              rotate_left 1
              · intro w' hSw
                try dsimp only at hSw
                obtain q1 := hSw
                go_simp
                all_goals with_reducible rfl
              try simp only [Act.put, List.setIfInBounds_toArray, List.set_cons_zero, List.set_cons_succ]
              refine held_take (i := 2) (v := ?_) 53 rfl rfl (by kernel_rfl) (by kernel_rfl) (by kernel_rfl) (fun _ _ _ h => h) (Or.inl ⟨by rfl, ?_⟩) hS ?_
              rotate_left 1
              · intro w' hSw
                try dsimp only at hSw
                obtain q1 := hSw
                go_simp
                all_goals with_reducible rfl
              try simp only [Act.put, List.setIfInBounds_toArray, List.set_cons_zero, List.set_cons_succ]
              refine held_take (i := 3) (v := ?_) 54 rfl rfl (by kernel_rfl) (by kernel_rfl) (by kernel_rfl) (fun _ _ _ h => h) (Or.inl ⟨by rfl, ?_⟩) hS ?_
              rotate_left 1
              · intro w' hSw
                try dsimp only at hSw
                obtain q1 := hSw
                go_simp
                all_goals with_reducible rfl
              try simp only [Act.put, List.setIfInBounds_toArray, List.set_cons_zero, List.set_cons_succ]
              refine held_take (i := 4) (v := ?_) 55 rfl rfl (by kernel_rfl) (by kernel_rfl) (by kernel_rfl) (fun _ _ _ h => h) (Or.inl ⟨by rfl, ?_⟩) hS ?_
              rotate_left 1
              · intro w' hSw
                try dsimp only at hSw
                obtain q1 := hSw
                go_simp
                all_goals with_reducible rfl
              try simp only [Act.put, List.setIfInBounds_toArray, List.set_cons_zero, List.set_cons_succ]
              refine held_take (i := 5) (v := ?_) 56 rfl rfl (by kernel_rfl) (by kernel_rfl) (by kernel_rfl) (fun _ _ _ h => h) (Or.inl ⟨by rfl, ?_⟩) hS ?_
              rotate_left 1
              · intro w' hSw
                try dsimp only at hSw
                obtain q1 := hSw
                go_simp
                all_goals with_reducible rfl
              try simp only [Act.put, List.setIfInBounds_toArray, List.set_cons_zero, List.set_cons_succ]
              refine held_take (i := 6) (v := ?_) 57 rfl rfl (by kernel_rfl) (by kernel_rfl) (by kernel_rfl) (fun _ _ _ h => h) (Or.inl ⟨by rfl, ?_⟩) hS ?_
              rotate_left 1
              · intro w' hSw
                try dsimp only at hSw
                obtain q1 := hSw
                go_simp
                all_goals with_reducible rfl
              try simp only [Act.put, List.setIfInBounds_toArray, List.set_cons_zero, List.set_cons_succ]
              refine held_take (i := 7) (v := ?_) 58 rfl rfl (by kernel_rfl) (by kernel_rfl) (by kernel_rfl) (fun _ _ _ h => h) (Or.inl ⟨by rfl, ?_⟩) hS ?_
              rotate_left 1
              · intro w' hSw
                try dsimp only at hSw
                obtain q1 := hSw
                go_simp
                all_goals with_reducible rfl
              try simp only [Act.put, List.setIfInBounds_toArray, List.set_cons_zero, List.set_cons_succ]
              refine held_take (i := 8) (v := ?_) 8 rfl rfl (by kernel_rfl) (by kernel_rfl) (by kernel_rfl) (fun _ _ _ h => h) (Or.inl ⟨by rfl, ?_⟩) hS ?_
              rotate_left 1
              · intro w' hSw
                try dsimp only at hSw
                obtain q1 := hSw
                go_simp
                all_goals with_reducible rfl
              try simp only [Act.put, List.setIfInBounds_toArray, List.set_cons_zero, List.set_cons_succ]
              refine held_take (i := 9) (v := ?_) 9 rfl rfl (by kernel_rfl) (by kernel_rfl) (by kernel_rfl) (fun _ _ _ h => h) (Or.inl ⟨by rfl, ?_⟩) hS ?_
              rotate_left 1
              · intro w' hSw
                try dsimp only at hSw
                obtain q1 := hSw
                go_simp
                all_goals with_reducible rfl
              try simp only [Act.put, List.setIfInBounds_toArray, List.set_cons_zero, List.set_cons_succ]
              refine held_take (i := 10) (v := ?_) 10 rfl rfl (by kernel_rfl) (by kernel_rfl) (by kernel_rfl) (fun _ _ _ h => h) (Or.inl ⟨by rfl, ?_⟩) hS ?_
              rotate_left 1
              · intro w' hSw
                try dsimp only at hSw
                obtain q1 := hSw
                go_simp
                all_goals with_reducible rfl
              try simp only [Act.put, List.setIfInBounds_toArray, List.set_cons_zero, List.set_cons_succ]
              refine wpAnyH_done (by kernel_rfl) (noPanic_normal ?_) _
              clear hS
              go_wp2
              go_ret3
              rw [hfo.out]
              exact ⟨P, np, pc, rfl, hP, b⟩
        · have hv1 : fastR s bs l v = ([], 0, 3) := by rw [fastR, if_neg (by simp [hbw]), if_pos (by omega)]
          rw [hv1]
          simp only [decide_eq_false (show ¬ (1 ≤ (nv : Int) ∧ (nv : Int) ≤ 4) by omega)] at hb2
          clear h1 h2 h3 h4 hv1 hcw hbw hdl hvl hfa
          go_enter Tryz.func23, Tryz.ntmps23
          go_wp2_with fail
          rw [← hw1]
          clear hw1
          refine (hbg _ hs hl).mono ?_
          rintro e W ⟨rfl, hbel⟩
          clear hbg
          replace k4 := k4.below hbel
          replace b := b.trans (hbel.mono b.size)
          replace hs := hs.below hbel
          replace hl := hl.below hbel
          replace hd := hd.below hbel
          replace hv := hv.below hbel
          clear hbel
          go_wp2_with fail
          refine (hwt _ hd).mono ?_
          rintro e W ⟨rfl, hbel⟩
          clear hwt
          replace k4 := k4.below hbel
          replace b := b.trans (hbel.mono b.size)
          replace hs := hs.below hbel
          replace hl := hl.below hbel
          replace hd := hd.below hbel
          replace hv := hv.below hbel
          clear hbel
          go_wp2_with fail
          refine (hb1 _).mono ?_
          rintro e w' ⟨rfl, rfl⟩
          go_wp2_with fail
          refine (hb2 _).mono ?_
          rintro e w' ⟨rfl, rfl⟩
          go_wp2
          go_ret3
          exact RetFast0.none_ b
      · have hv1 : fastR s bs l v = ([], 0, 3) := by rw [fastR, if_neg (by simp [hbw]), if_pos (by omega)]
        rw [hv1]
        simp only [decide_eq_false (show ¬ (1 ≤ (nd : Int) ∧ (nd : Int) ≤ 6) by omega)] at hb1
        clear h1 h2 h3 hv1 hcw hbw hdl hvl hfa hb2
        go_enter Tryz.func23, Tryz.ntmps23
        go_wp2_with fail
        rw [← hw1]
        clear hw1
        refine (hbg _ hs hl).mono ?_
        rintro e W ⟨rfl, hbel⟩
        clear hbg
        replace k4 := k4.below hbel
        replace b := b.trans (hbel.mono b.size)
        replace hs := hs.below hbel
        replace hl := hl.below hbel
        replace hd := hd.below hbel
        replace hv := hv.below hbel
        clear hbel
        go_wp2_with fail
        refine (hwt _ hd).mono ?_
        rintro e W ⟨rfl, hbel⟩
        clear hwt
        replace k4 := k4.below hbel
        replace b := b.trans (hbel.mono b.size)
        replace hs := hs.below hbel
        replace hl := hl.below hbel
        replace hd := hd.below hbel
        replace hv := hv.below hbel
        clear hbel
        go_wp2_with fail
        refine (hb1 _).mono ?_
        rintro e w' ⟨rfl, rfl⟩
        go_wp2
        go_ret3
        exact RetFast0.none_ b
    · have hcw : chkWats l = 33 := by rw [chkWats, if_neg h2]
      have hv1 : fastR s bs l v = ([], 0, 33) := by
        have : errBW s bs l = 33 := by rw [errBW, if_pos h1]; exact hcw
        rw [fastR, this, if_pos (by omega)]
      rw [hv1]
      simp only [hcw] at hwt
      clear h1 h2 hv1 hcw hdl hvl hfa hb1 hb2
      go_enter Tryz.func23, Tryz.ntmps23
      go_wp2_with fail
      rw [← hw1]
      clear hw1
      refine (hbg _ hs hl).mono ?_
      rintro e W ⟨rfl, hbel⟩
      clear hbg
      replace k4 := k4.below hbel
      replace b := b.trans (hbel.mono b.size)
      replace hs := hs.below hbel
      replace hl := hl.below hbel
      replace hd := hd.below hbel
      replace hv := hv.below hbel
      clear hbel
      go_wp2_with fail
      refine (hwt _ hd).mono ?_
      rintro e W ⟨rfl, hbel⟩
      clear hwt
      replace k4 := k4.below hbel
      replace b := b.trans (hbel.mono b.size)
      replace hs := hs.below hbel
      replace hl := hl.below hbel
      replace hd := hd.below hbel
      replace hv := hv.below hbel
      clear hbel
      go_wp2
      go_ret3
      exact RetFast0.none_ b
  · have hv1 : fastR s bs l v = ([], 0, errB s bs) := by
      have : errBW s bs l = errB s bs := by rw [errBW, if_neg h1]
      rw [fastR, this, if_pos h1]
    rw [hv1]
    have h1' : (errB s bs != 0) = true := by rw [bne_iff_ne]; exact h1
    generalize errB s bs = er at *
    clear hv1 hdl hvl hfa hb1 hb2 hwt
    go_enter Tryz.func23, Tryz.ntmps23
    go_wp2_with fail
    rw [← hw1]
    clear hw1
    refine (hbg _ hs hl).mono ?_
    rintro e W ⟨rfl, hbel⟩
    clear hbg
    replace k4 := k4.below hbel
    replace b := b.trans (hbel.mono b.size)
    replace hs := hs.below hbel
    replace hl := hl.below hbel
    replace hd := hd.below hbel
    replace hv := hv.below hbel
    clear hbel
    go_wp2
    go_ret3
    exact RetFast0.none_ b
end Go.Proofs.YtjiaepphnddpoaaGreat
