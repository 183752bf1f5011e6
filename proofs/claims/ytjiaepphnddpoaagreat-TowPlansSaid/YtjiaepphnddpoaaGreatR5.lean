/-
  The specification's package: the ends of bounds, and so many times a number.
  The specification's package: the error of a streamer with bounds; the bounds after a step.
  The specification's package: the bounds after a step, walked.
-/
import Derived.Test.YtjiaepphnddpoaaGreatR3
import Derived.Test.YtjiaepphnddpoaaGreatW5
namespace Go.Proofs.YtjiaepphnddpoaaGreat
open Go.RowKit Go.Shelf
set_option linter.unusedSimpArgs false
set_option linter.unusedVariables false

theorem mapTake_succ {α β : Type} (f : α → β) {l : List α} {k : Nat} {x : α} (hk : l[k]? = some x) : (l.take (k + 1)).map f = (l.take k).map f ++ [f x] := by
  rw [List.take_add_one, hk, List.map_append]; rfl
set_option maxRecDepth 100000 in
set_option maxHeartbeats 1000000 in
theorem Rlows_any (A : Option Addr) (n c B : Nat) (l : List Bnd) (w : World) (hn : n ≤ 1000) (hs : SlAt w B 2 Bnd.cells A n c l) :
    Calls Tryz.prog 152 #[.slice A n c] w fun e w' => ∃ P pc, e = .returned (.slice P n pc) ∧ SlAt w' w.heap.size 1 ivs P n pc (l.map (·.lo)) ∧ Below w.heap.size w w' := by
  have hl := Lib.hid hs.len
  go_enter Tryz.func152, Tryz.ntmps152
  go_wp2_with fail
  go_loopw [3, 4] (fun v i wr => ∃ k : Nat, i = .int .i64 k ∧ k ≤ n ∧ wr.ownsRow w.heap.size 3 1 v k (((l.take k).map (·.lo)).map (.int .i64 ·)) ∧ Below w.heap.size w wr) (fun v i wr => n - (intOf i).toNat)
  case atStart => exact ⟨0, rfl, Nat.zero_le _, ⟨rfl, .inl ⟨rfl, rfl⟩⟩, Below.refl _ _⟩
  case round =>
    obtain ⟨k, rfl, hk, hown, hb⟩ := hrel
    by_cases hlt : k < n
    · obtain ⟨x, hx⟩ := some_of_lt hl.out hlt
      have hnx : Hid (((l.take (k + 1)).map (·.lo)).map (.int .i64 ·) = ((l.take k).map (·.lo)).map (Value.int .i64 ·) ++ [.int .i64 x.lo]) := by show _ = _; rw [mapTake_succ _ hx, List.map_append]; rfl
      obtain ⟨b, off, rfl, -, hbl, c0, c1⟩ := (hs.keep hb.size (fun _ _ h => hb.cell h)).bnd hx
      replace hx := Lib.hid hx
      have hk0 : (0 : Int) ≤ (k : Int) := by omega
      have hk1 : (k : Int) < (n : Int) := by omega
      have hbig1 : Hid (k + 1 ≤ maxLen) := by show k + 1 ≤ maxLen; unfold maxLen; omega
      have hbig2 : Hid ((k + 1) * 8 ≤ 140737488355328) := by show (k + 1) * 8 ≤ 140737488355328; omega
      obtain ⟨i0, hi0, hz0, hz1, hz2⟩ := info_parts Tryz.infoInt
      have hnews : ∀ (j : Nat) (u : Value), ([.int .i64 x.lo] : List Value)[j]? = some u → (wr.alloc (.cells #[.int .i64 x.lo] 3)).cell? ((⟨wr.heap.size, 0, none⟩ : Addr).add j) = some u :=
        World.news_of_block (cs := #[.int .i64 x.lo]) (World.alloc_heap_new wr _)
      have hownf := hown.alloc (.cells #[.int .i64 x.lo] 3)
      have hbf := hb.alloc hb.size (.cells #[.int .i64 x.lo] 3)
      go_wp2_with (at_builtin; refine wpList_append_lies _ rfl (.tmp 11) (.tmp 17) 31 rfl w.heap.size 3 i0 (.int .i64 0) 1 8 Tryz.underlying31 hi0 hz0 hz1 hz2 rfl (by decide) u3 k (((l.take k).map (·.lo)).map (.int .i64 ·)) rfl hownf ⟨wr.heap.size, 0, none⟩ 1 1 [.int .i64 x.lo] rfl rfl hnews (by simp [Value.oneCell']) (by decide) hbig1.out hbig2.out hbf.size (wr.heap.size + 1) (by simp) ?_; intro g cap w7 hown7 hgrow hlies hlt7)
      have hbg : Below w.heap.size _ w7 := ⟨hgrow.os, hgrow.tape, hgrow.output, hgrow.size, fun b hb2 => hgrow.block b (Nat.lt_of_lt_of_le hb2 hbf.size) (fun e => by have := (hownf.lt _ e.symm).1; omega)⟩
      have hbh := hbf.trans hbg
      go_roundw
      case rel =>
        refine ⟨k + 1, by go_num, by omega, ?_, hbh⟩
        rw [hnx.out]
        simpa using hown7
      case measure => simp [intOf]; omega
    · obtain rfl : k = n := by omega
      go_wp2
      go_ret
      have ht : l.take k = l := List.take_of_length_le (by rw [hl.out]; exact Nat.le_refl _)
      rw [ht] at hown
      obtain ⟨P, pc, e2, h2⟩ := SlAt.of_own (enc := ivs) hown (by omega) (l.map (·.lo)) (flatMap_ivs _).symm (fun _ => rfl) (by rw [List.length_map]; exact hl.out)
      exact ⟨P, pc, by rw [e2]; rfl, h2, hb⟩
set_option maxRecDepth 100000 in
set_option maxHeartbeats 1000000 in
theorem Rhighs_any (A : Option Addr) (n c B : Nat) (l : List Bnd) (w : World) (hn : n ≤ 1000) (hs : SlAt w B 2 Bnd.cells A n c l) :
    Calls Tryz.prog 154 #[.slice A n c] w fun e w' => ∃ P pc, e = .returned (.slice P n pc) ∧ SlAt w' w.heap.size 1 ivs P n pc (l.map (·.hi)) ∧ Below w.heap.size w w' := by
  have hl := Lib.hid hs.len
  go_enter Tryz.func154, Tryz.ntmps154
  go_wp2_with fail
  go_loopw [3, 4] (fun v i wr => ∃ k : Nat, i = .int .i64 k ∧ k ≤ n ∧ wr.ownsRow w.heap.size 3 1 v k (((l.take k).map (·.hi)).map (.int .i64 ·)) ∧ Below w.heap.size w wr) (fun v i wr => n - (intOf i).toNat)
  case atStart => exact ⟨0, rfl, Nat.zero_le _, ⟨rfl, .inl ⟨rfl, rfl⟩⟩, Below.refl _ _⟩
  case round =>
    obtain ⟨k, rfl, hk, hown, hb⟩ := hrel
    by_cases hlt : k < n
    · obtain ⟨x, hx⟩ := some_of_lt hl.out hlt
      have hnx : Hid (((l.take (k + 1)).map (·.hi)).map (.int .i64 ·) = ((l.take k).map (·.hi)).map (Value.int .i64 ·) ++ [.int .i64 x.hi]) := by show _ = _; rw [mapTake_succ _ hx, List.map_append]; rfl
      obtain ⟨b, off, rfl, -, hbl, c0, c1⟩ := (hs.keep hb.size (fun _ _ h => hb.cell h)).bnd hx
      replace hx := Lib.hid hx
      have hk0 : (0 : Int) ≤ (k : Int) := by omega
      have hk1 : (k : Int) < (n : Int) := by omega
      have hbig1 : Hid (k + 1 ≤ maxLen) := by show k + 1 ≤ maxLen; unfold maxLen; omega
      have hbig2 : Hid ((k + 1) * 8 ≤ 140737488355328) := by show (k + 1) * 8 ≤ 140737488355328; omega
      obtain ⟨i0, hi0, hz0, hz1, hz2⟩ := info_parts Tryz.infoInt
      have hnews : ∀ (j : Nat) (u : Value), ([.int .i64 x.hi] : List Value)[j]? = some u → (wr.alloc (.cells #[.int .i64 x.hi] 3)).cell? ((⟨wr.heap.size, 0, none⟩ : Addr).add j) = some u :=
        World.news_of_block (cs := #[.int .i64 x.hi]) (World.alloc_heap_new wr _)
      have hownf := hown.alloc (.cells #[.int .i64 x.hi] 3)
      have hbf := hb.alloc hb.size (.cells #[.int .i64 x.hi] 3)
      go_wp2_with (at_builtin; refine wpList_append_lies _ rfl (.tmp 11) (.tmp 17) 31 rfl w.heap.size 3 i0 (.int .i64 0) 1 8 Tryz.underlying31 hi0 hz0 hz1 hz2 rfl (by decide) u3 k (((l.take k).map (·.hi)).map (.int .i64 ·)) rfl hownf ⟨wr.heap.size, 0, none⟩ 1 1 [.int .i64 x.hi] rfl rfl hnews (by simp [Value.oneCell']) (by decide) hbig1.out hbig2.out hbf.size (wr.heap.size + 1) (by simp) ?_; intro g cap w7 hown7 hgrow hlies hlt7)
      have hbg : Below w.heap.size _ w7 := ⟨hgrow.os, hgrow.tape, hgrow.output, hgrow.size, fun b hb2 => hgrow.block b (Nat.lt_of_lt_of_le hb2 hbf.size) (fun e => by have := (hownf.lt _ e.symm).1; omega)⟩
      have hbh := hbf.trans hbg
      go_roundw
      case rel =>
        refine ⟨k + 1, by go_num, by omega, ?_, hbh⟩
        rw [hnx.out]
        simpa using hown7
      case measure => simp [intOf]; omega
    · obtain rfl : k = n := by omega
      go_wp2
      go_ret
      have ht : l.take k = l := List.take_of_length_le (by rw [hl.out]; exact Nat.le_refl _)
      rw [ht] at hown
      obtain ⟨P, pc, e2, h2⟩ := SlAt.of_own (enc := ivs) hown (by omega) (l.map (·.hi)) (flatMap_ivs _).symm (fun _ => rfl) (by rw [List.length_map]; exact hl.out)
      exact ⟨P, pc, by rw [e2]; rfl, h2, hb⟩
theorem rep_succ (x : Int) (k : Nat) : (List.replicate (k + 1) x).map (Value.int .i64 ·) = (List.replicate k x).map (Value.int .i64 ·) ++ [.int .i64 x] := by
  rw [List.replicate_succ', List.map_append]; rfl
set_option maxRecDepth 100000 in
set_option maxHeartbeats 1000000 in
theorem Rsame_any (x : Int) (n : Nat) (w : World) (hn : n ≤ 1000) :
    Calls Tryz.prog 153 #[.int .i64 x, .int .i64 (n : Int)] w fun e w' => ∃ P pc, e = .returned (.slice P n pc) ∧ SlAt w' w.heap.size 1 ivs P n pc (List.replicate n x) ∧ Below w.heap.size w w' := by
  go_enter Tryz.func153, Tryz.ntmps153
  go_wp2_with fail
  go_loopw [5, 6] (fun v i wr => ∃ k : Nat, i = .int .i64 k ∧ k ≤ n ∧ wr.ownsRow w.heap.size 3 1 v k ((List.replicate k x).map (.int .i64 ·)) ∧ Below w.heap.size w wr) (fun v i wr => n - (intOf i).toNat)
  case atStart => exact ⟨0, rfl, Nat.zero_le _, ⟨rfl, .inl ⟨rfl, rfl⟩⟩, Below.refl _ _⟩
  case round =>
    obtain ⟨k, rfl, hk, hown, hb⟩ := hrel
    by_cases hlt : k < n
    · have hnx := Lib.hid (rep_succ x k)
      have hk0 : (0 : Int) ≤ (k : Int) := by omega
      have hk1 : (k : Int) < (n : Int) := by omega
      have hbig1 : Hid (k + 1 ≤ maxLen) := by show k + 1 ≤ maxLen; unfold maxLen; omega
      have hbig2 : Hid ((k + 1) * 8 ≤ 140737488355328) := by show (k + 1) * 8 ≤ 140737488355328; omega
      obtain ⟨i0, hi0, hz0, hz1, hz2⟩ := info_parts Tryz.infoInt
      have hnews : ∀ (j : Nat) (u : Value), ([.int .i64 x] : List Value)[j]? = some u → (wr.alloc (.cells #[.int .i64 x] 3)).cell? ((⟨wr.heap.size, 0, none⟩ : Addr).add j) = some u :=
        World.news_of_block (cs := #[.int .i64 x]) (World.alloc_heap_new wr _)
      have hownf := hown.alloc (.cells #[.int .i64 x] 3)
      have hbf := hb.alloc hb.size (.cells #[.int .i64 x] 3)
      go_wp2_with (at_builtin; refine wpList_append_lies _ rfl (.tmp 12) (.tmp 14) 31 rfl w.heap.size 3 i0 (.int .i64 0) 1 8 Tryz.underlying31 hi0 hz0 hz1 hz2 rfl (by decide) u5 k ((List.replicate k x).map (.int .i64 ·)) rfl hownf ⟨wr.heap.size, 0, none⟩ 1 1 [.int .i64 x] rfl rfl hnews (by simp [Value.oneCell']) (by decide) hbig1.out hbig2.out hbf.size (wr.heap.size + 1) (by simp) ?_; intro g cap w7 hown7 hgrow hlies hlt7)
      have hbg : Below w.heap.size _ w7 := ⟨hgrow.os, hgrow.tape, hgrow.output, hgrow.size, fun b hb2 => hgrow.block b (Nat.lt_of_lt_of_le hb2 hbf.size) (fun e => by have := (hownf.lt _ e.symm).1; omega)⟩
      have hbh := hbf.trans hbg
      go_roundw
      case rel =>
        refine ⟨k + 1, by go_num, by omega, ?_, hbh⟩
        rw [hnx.out]
        simpa using hown7
      case measure => simp [intOf]; omega
    · obtain rfl : k = n := by omega
      go_wp2
      go_ret
      obtain ⟨P, pc, e2, h2⟩ := SlAt.of_own (enc := ivs) hown (by omega) (List.replicate k x) (flatMap_ivs _).symm (fun _ => rfl) (by simp)
      exact ⟨P, pc, by rw [e2]; rfl, h2, hb⟩
end Go.Proofs.YtjiaepphnddpoaaGreat
namespace Go.Proofs.YtjiaepphnddpoaaGreat
open Go.RowKit Go.Shelf
set_option linter.unusedSimpArgs false
set_option linter.unusedVariables false

theorem errB_of {s : Strm} {l : List Bnd} (h : okStrm s = true) : errB s l = if (decide (l.length = s.secs.length) && l.all (okBnd 16384)) = true then 0 else 31 := by simp [errB, h, okOffs]
theorem bndTo_succ {m : Int} {l : List Bnd} {k : Nat} {x : Bnd} (hk : l[k]? = some x) : (l.take (k + 1)).all (okBnd m) = ((l.take k).all (okBnd m) && okBnd m x) := by
  rw [List.take_add_one, hk]; simp
set_option maxRecDepth 100000 in
set_option maxHeartbeats 1000000 in
theorem Rbegun_any (s : Strm) (A O : Option Addr) (n c no co B1 B : Nat) (l : List Bnd) (w : World) (hss : SlAt w B1 5 Sec.cells A n c s.secs) (hs : SlAt w B 2 Bnd.cells O no co l) :
    Calls Tryz.prog 75 #[.agg #[.int .i64 s.head, .slice A n c, .int .i64 s.lane.lo, .int .i64 s.lane.hi, .int .i64 s.bend], .slice O no co] w fun e w' => e = .returned (.int .i64 (errB s l)) ∧ Below w.heap.size w w' := by
  have hl := Lib.hid hs.len
  have hsl := Lib.hid hss.len
  have hno := hs.le
  have hchk := fun W (hW : Below w.heap.size w W) => RCheck_any s A n c B1 W (hss.below hW)
  cases h1 : okStrm s
  · have hv : Hid (errB s l = 30) := by show _ = _; simp [errB, h1]
    have hk : chkStrm s = 30 := by simp [chkStrm, h1]
    simp only [hk] at hchk
    clear hk h1 hss hs
    go_enter Tryz.func75, Tryz.ntmps75
    go_wp2_with fail
    refine (hchk _ ((Below.refl _ _).alloc (Nat.le_refl _) _)).mono ?_
    rintro e w1 ⟨rfl, hb1⟩
    go_wp2
    go_ret
    exact ⟨ret_int hv.out.symm, ((Below.refl w.heap.size w).alloc (Nat.le_refl _) _).trans (hb1.mono (by simp))⟩
  · have hv := Lib.hid (errB_of (l := l) h1)
    have hk : chkStrm s = 0 := by simp [chkStrm, h1]
    have hde : Hid (decide (l.length = s.secs.length) = decide ((no : Int) = (n : Int))) := by show _ = _; rw [hl.out, hsl.out]; apply dec_eq; omega
    simp only [hk] at hchk
    clear hk h1 hss
    go_enter Tryz.func75, Tryz.ntmps75
    go_wp2_with fail
    refine (hchk _ ((Below.refl _ _).alloc (Nat.le_refl _) _)).mono ?_
    rintro e w1 ⟨rfl, hb1⟩
    have k3 := (Blk.new w 26 #[.int .i64 s.head, .slice A n c, .int .i64 s.lane.lo, .int .i64 s.lane.hi, .int .i64 s.bend]).below hb1
    have b1 := ((Below.refl w.heap.size w).alloc (Nat.le_refl _) _).trans (hb1.mono (by simp))
    clear hb1 hchk
    obtain ⟨c3, f3, l3⟩ := k3.rules
    go_wp2_with fail
    clear c3 f3 l3 k3
    go_loopw [6, 7] (fun q i wr => ∃ k : Nat, i = .int .i64 k ∧ k ≤ no ∧ q = .bool (decide ((no : Int) = (n : Int)) && (l.take k).all (okBnd 16384)) ∧ Below w.heap.size w wr) (fun q i wr => no - (intOf i).toNat)
    case atStart => exact ⟨0, rfl, Nat.zero_le _, congrArg Value.bool (by rw [List.take_zero, List.all_nil, Bool.and_true, Bool.eq_iff_iff]; simp), b1⟩
    case round =>
      obtain ⟨k, rfl, hk, rfl, hb⟩ := hrel
      by_cases hlt : k < no
      · obtain ⟨x, hx⟩ := some_of_lt hl.out hlt
        have hst := Lib.hid (bndTo_succ (m := 16384) hx)
        obtain ⟨b, off, rfl, -, hbl, c0, c1⟩ := (hs.keep hb.size (fun _ _ h => hb.cell h)).bnd hx
        replace hx := Lib.hid hx
        clear hs
        have hk0 : (0 : Int) ≤ (k : Int) := by omega
        have hk1 : (k : Int) < (no : Int) := by omega
        have hE := fun W => rends_any x (-16384) 16384 W
        obtain ⟨ok, hok⟩ : ∃ ok, okBnd 16384 x = ok := ⟨_, rfl⟩
        have hok2 : decide (-16384 ≤ x.lo ∧ x.lo ≤ x.hi ∧ x.hi ≤ 16384) = ok := hok
        simp only [hok2] at hE
        rw [hok] at hst
        clear hok hok2
        cases hq : (decide ((no : Int) = (n : Int)) && (l.take k).all (okBnd 16384)) with
        | false =>
          have hst2 : Hid ((decide ((no : Int) = (n : Int)) && (l.take (k + 1)).all (okBnd 16384)) = false) := by show _ = _; rw [hst.out, ← Bool.and_assoc, hq]; rfl
          clear hq
          go_wp2
          go_roundw
          case rel => exact ⟨k + 1, by go_num, by omega, by rw [hst2.out], hb⟩
          case measure => simp [intOf]; omega
        | true =>
          have hst2 : Hid ((decide ((no : Int) = (n : Int)) && (l.take (k + 1)).all (okBnd 16384)) = ok) := by show _ = _; rw [hst.out, ← Bool.and_assoc, hq]; simp
          clear hq
          go_wp2_with fail
          refine (hE _).mono ?_
          rintro e w' ⟨rfl, hb1⟩
          go_wp2
          go_roundw
          case rel => exact ⟨k + 1, by go_num, by omega, by rw [hst2.out], hb.trans (hb1.mono hb.size)⟩
          case measure => simp [intOf]; omega
      · obtain rfl : k = no := by omega
        have ht : l.take k = l := List.take_of_length_le (by rw [hl.out]; exact Nat.le_refl _)
        rw [ht]
        rw [hde.out] at hv
        cases hq : (decide ((k : Int) = (n : Int)) && l.all (okBnd 16384)) with
        | false =>
          rw [hq] at hv
          replace hq := Lib.hid hq
          go_wp2
          go_ret
          exact ⟨ret_int (by rw [hv.out]; rfl), hb⟩
        | true =>
          rw [hq] at hv
          replace hq := Lib.hid hq
          go_wp2
          go_ret
          exact ⟨ret_int (by rw [hv.out]; rfl), hb⟩
theorem okOffs_get {s : Strm} {l : List Bnd} (h : okOffs s l = true) {x : Bnd} (hx : x ∈ l) : -16384 ≤ x.lo ∧ x.lo ≤ x.hi ∧ x.hi ≤ 16384 := by
  unfold okOffs at h
  simp only [Bool.and_eq_true, decide_eq_true_eq] at h
  exact of_decide_eq_true (List.all_eq_true.1 h.2 x hx)
theorem okNums_of {s : Strm} {l : List Int} {m : Int} (h : l.length = s.secs.length) (h2 : ∀ x ∈ l, -m ≤ x ∧ x ≤ m) : okNums s l m = true := by
  unfold okNums
  rw [h]
  simp only [decide_true, Bool.true_and, List.all_eq_true]
  intro x hx
  exact decide_eq_true (h2 x hx)
theorem okNums_lo {s : Strm} {l : List Bnd} (h : okOffs s l = true) : okNums s (l.map (·.lo)) 16384 = true := by
  refine okNums_of (by rw [List.length_map, okOffs_len h]) fun x hx => ?_
  obtain ⟨y, hy, rfl⟩ := List.mem_map.1 hx
  have := okOffs_get h hy
  omega
theorem encL_lo (s : Strm) (l : List Bnd) (d : Bnd) : (encL s l d).map (·.lo) = stepL s (l.map (·.lo)) (List.replicate l.length d.lo) := by
  unfold encL stepL eachL
  rw [List.map_map, List.length_map]
  refine List.map_congr_left fun i hi => ?_
  have hi2 : i < l.length := List.mem_range.1 hi
  have h1 : (l.map (·.lo)).getD i s.head = (l.getD i (still s.head)).lo := by
    rw [List.getD_eq_getElem?_getD, List.getD_eq_getElem?_getD, List.getElem?_map, List.getElem?_eq_getElem hi2]; rfl
  have h2 : prev s.head (l.map (·.lo)) i = (prev (still s.head) l i).lo := by
    cases i with
    | zero => rfl
    | succ q =>
      show (l.map (·.lo)).getD q s.head = (l.getD q (still s.head)).lo
      rw [List.getD_eq_getElem?_getD, List.getD_eq_getElem?_getD, List.getElem?_map, List.getElem?_eq_getElem (show q < l.length by omega)]; rfl
  have h3 : (List.replicate l.length d.lo).getD i 0 = d.lo := by
    rw [List.getD_eq_getElem?_getD, List.getElem?_replicate, if_pos hi2]; rfl
  show (encB s d i (l.getD i (still s.head)) (prev (still s.head) l i)).lo = _
  rw [h1, h2]
  show _ = eased s (s.sec i) _ _ ((List.replicate l.length d.lo).getD i 0)
  rw [h3]
  rfl
theorem okNums_hi {s : Strm} {l : List Bnd} (h : okOffs s l = true) : okNums s (l.map (·.hi)) 16384 = true := by
  refine okNums_of (by rw [List.length_map, okOffs_len h]) fun x hx => ?_
  obtain ⟨y, hy, rfl⟩ := List.mem_map.1 hx
  have := okOffs_get h hy
  omega
theorem encL_hi (s : Strm) (l : List Bnd) (d : Bnd) : (encL s l d).map (·.hi) = stepL s (l.map (·.hi)) (List.replicate l.length d.hi) := by
  unfold encL stepL eachL
  rw [List.map_map, List.length_map]
  refine List.map_congr_left fun i hi => ?_
  have hi2 : i < l.length := List.mem_range.1 hi
  have h1 : (l.map (·.hi)).getD i s.head = (l.getD i (still s.head)).hi := by
    rw [List.getD_eq_getElem?_getD, List.getD_eq_getElem?_getD, List.getElem?_map, List.getElem?_eq_getElem hi2]; rfl
  have h2 : prev s.head (l.map (·.hi)) i = (prev (still s.head) l i).hi := by
    cases i with
    | zero => rfl
    | succ q =>
      show (l.map (·.hi)).getD q s.head = (l.getD q (still s.head)).hi
      rw [List.getD_eq_getElem?_getD, List.getD_eq_getElem?_getD, List.getElem?_map, List.getElem?_eq_getElem (show q < l.length by omega)]; rfl
  have h3 : (List.replicate l.length d.hi).getD i 0 = d.hi := by
    rw [List.getD_eq_getElem?_getD, List.getElem?_replicate, if_pos hi2]; rfl
  show (encB s d i (l.getD i (still s.head)) (prev (still s.head) l i)).hi = _
  rw [h1, h2]
  show _ = eased s (s.sec i) _ _ ((List.replicate l.length d.hi).getD i 0)
  rw [h3]
  rfl
theorem okNums_rep {s : Strm} {l : List Bnd} {x : Int} (h : okOffs s l = true) (hx : -100 ≤ x ∧ x ≤ 100) : okNums s (List.replicate l.length x) 100 = true := by
  refine okNums_of (by rw [List.length_replicate, okOffs_len h]) fun y hy => ?_
  rw [List.eq_of_mem_replicate hy]
  exact hx
theorem encL_len (s : Strm) (l : List Bnd) (d : Bnd) : (encL s l d).length = l.length := by simp [encL, eachL]
end Go.Proofs.YtjiaepphnddpoaaGreat
namespace Go.Proofs.YtjiaepphnddpoaaGreat
open Go.RowKit Go.Shelf
set_option linter.unusedSimpArgs false
set_option linter.unusedVariables false

set_option maxRecDepth 100000 in
set_option maxHeartbeats 4000000 in
theorem Renclose_any (s : Strm) (A O : Option Addr) (n c co B1 B : Nat) (l : List Bnd) (d : Bnd) (w : World) (ho : okStrm s = true) (hl : okOffs s l = true) (hd : okBnd 100 d = true) (hss : SlAt w B1 5 Sec.cells A n c s.secs) (hs : SlAt w B 2 Bnd.cells O n co l) :
    Calls Tryz.prog 101 #[.agg #[.int .i64 s.head, .slice A n c, .int .i64 s.lane.lo, .int .i64 s.lane.hi, .int .i64 s.bend], .slice O n co, .agg #[.int .i64 d.lo, .int .i64 d.hi]] w fun e w' => ∃ P pc, e = .returned (.slice P n pc) ∧ SlAt w' w.heap.size 2 Bnd.cells P n pc (encL s l d) ∧ Below w.heap.size w w' := by
  have hn8 : n ≤ 8 := by have := ok_head ho; unfold headOk at this; have := hss.len; omega
  have hln := hs.len
  have hdb : -100 ≤ d.lo ∧ d.lo ≤ d.hi ∧ d.hi ≤ 100 := of_decide_eq_true hd
  have a1 := okNums_lo hl
  have a2 := okNums_rep (x := d.lo) hl (by omega)
  have a3 := okNums_hi hl
  have a4 := okNums_rep (x := d.hi) hl (by omega)
  rw [hln] at a2 a4
  have hlo := fun W (hW : Below w.heap.size w W) => Rlows_any O n co B l W (by omega) (hs.below hW)
  have hhi := fun W (hW : Below w.heap.size w W) => Rhighs_any O n co B l W (by omega) (hs.below hW)
  have hsm1 := fun W => Rsame_any d.lo n W (by omega)
  have hsm2 := fun W => Rsame_any d.hi n W (by omega)
  have hst1 := fun W P pc Q qc B2 B3 (hW : Below w.heap.size w W) (h1 : SlAt W B2 1 ivs P n pc (l.map (·.lo))) (h2 : SlAt W B3 1 ivs Q n qc (List.replicate n d.lo)) => Rstep_any s A P Q n c pc qc B1 B2 B3 (l.map (·.lo)) (List.replicate n d.lo) W ho a1 a2 (hss.below hW) h1 h2
  have hst2 := fun W P pc Q qc B2 B3 (hW : Below w.heap.size w W) (h1 : SlAt W B2 1 ivs P n pc (l.map (·.hi))) (h2 : SlAt W B3 1 ivs Q n qc (List.replicate n d.hi)) => Rstep_any s A P Q n c pc qc B1 B2 B3 (l.map (·.hi)) (List.replicate n d.hi) W ho a3 a4 (hss.below hW) h1 h2
  have hE1 := encL_lo s l d
  have hE2 := encL_hi s l d
  have hEl := encL_len s l d
  rw [hln] at hE1 hE2 hEl
  simp only [← hE1] at hst1
  simp only [← hE2] at hst2
  generalize encL s l d = E at *
  replace hEl := Lib.hid hEl
  clear hE1 hE2 a1 a2 a3 a4 hdb hd ho hl hln hss
  obtain ⟨w1, hw1⟩ : ∃ w1, w1 = (w.alloc (.cells #[.int .i64 s.head, .slice A n c, .int .i64 s.lane.lo, .int .i64 s.lane.hi, .int .i64 s.bend] 26)).alloc (.cells #[.int .i64 d.lo, .int .i64 d.hi] 24) := ⟨_, rfl⟩
  have k3 : Blk w1 w.heap.size 26 #[.int .i64 s.head, .slice A n c, .int .i64 s.lane.lo, .int .i64 s.lane.hi, .int .i64 s.bend] := by rw [hw1]; exact (Blk.new _ _ _).alloc _
  have k5 : Blk w1 (w.heap.size + 1) 24 #[.int .i64 d.lo, .int .i64 d.hi] := by rw [hw1]; have := Blk.new (w.alloc (.cells #[.int .i64 s.head, .slice A n c, .int .i64 s.lane.lo, .int .i64 s.lane.hi, .int .i64 s.bend] 26)) 24 #[.int .i64 d.lo, .int .i64 d.hi]; rw [World.size_alloc] at this; exact this
  have b1 : Below w.heap.size w w1 := by rw [hw1]; exact ((Below.refl _ _).alloc (Nat.le_refl _) _).alloc (by simp) _
  go_enter Tryz.func101, Tryz.ntmps101
  go_wp2_with fail
  rw [← hw1]
  clear hw1 hs
  refine wp_held_np (fun w' : World => (∀ j, w'.cell? ⟨w.heap.size, j, none⟩ = #[Value.int .i64 s.head, .slice A n c, .int .i64 s.lane.lo, .int .i64 s.lane.hi, .int .i64 s.bend][j]?) ∧ (∀ j, w'.cell? ⟨w.heap.size + 1, j, none⟩ = #[Value.int .i64 d.lo, .int .i64 d.hi][j]?)) (by kernel_rfl) ?_
  replace k3 := k3.drew
  replace k5 := k5.drew
  replace b1 := b1.drew
  generalize w1.drew = w2 at *
  have hS : (fun w' : World => (∀ j, w'.cell? ⟨w.heap.size, j, none⟩ = #[Value.int .i64 s.head, .slice A n c, .int .i64 s.lane.lo, .int .i64 s.lane.hi, .int .i64 s.bend][j]?) ∧ (∀ j, w'.cell? ⟨w.heap.size + 1, j, none⟩ = #[Value.int .i64 d.lo, .int .i64 d.hi][j]?)) w2 := ⟨k3.cell, k5.cell⟩
  refine held_take (i := 0) (v := ?_) 11 rfl rfl (by kernel_rfl) (by kernel_rfl) (by kernel_rfl) (fun _ _ _ h => h) (Or.inl ⟨by rfl, ?_⟩) hS ?_
  rotate_left 1
  · intro w' hSw
    try dsimp only at hSw
    obtain ⟨q1, q2⟩ := hSw
    go_simp
    all_goals with_reducible rfl
  try simp only [Act.put, List.setIfInBounds_toArray, List.set_cons_zero, List.set_cons_succ]
  refine held_take (i := 1) (v := ?_) 12 rfl rfl (by kernel_rfl) (by kernel_rfl) (by kernel_rfl) (fun _ _ _ h => h) (Or.inl ⟨by rfl, ?_⟩) hS ?_
  rotate_left 1
  · intro w' hSw
    try dsimp only at hSw
    obtain ⟨q1, q2⟩ := hSw
    go_simp
    all_goals with_reducible rfl
  try simp only [Act.put, List.setIfInBounds_toArray, List.set_cons_zero, List.set_cons_succ]
  refine held_take (i := 3) (v := ?_) 14 rfl rfl (by kernel_rfl) (by kernel_rfl) (by kernel_rfl) (fun _ _ _ h => h) (Or.inl ⟨by rfl, ?_⟩) hS ?_
  rotate_left 1
  · intro w' hSw
    try dsimp only at hSw
    obtain ⟨q1, q2⟩ := hSw
    go_simp
    all_goals with_reducible rfl
  try simp only [Act.put, List.setIfInBounds_toArray, List.set_cons_zero, List.set_cons_succ]
  refine held_take (i := 4) (v := ?_) 15 rfl rfl (by kernel_rfl) (by kernel_rfl) (by kernel_rfl) (fun _ _ _ h => h) (Or.inl ⟨by rfl, ?_⟩) hS ?_
  rotate_left 1
  · intro w' hSw
    try dsimp only at hSw
    obtain ⟨q1, q2⟩ := hSw
    go_simp
    all_goals with_reducible rfl
  try simp only [Act.put, List.setIfInBounds_toArray, List.set_cons_zero, List.set_cons_succ]
  refine held_take (i := 5) (v := ?_) 16 rfl rfl (by kernel_rfl) (by kernel_rfl) (by kernel_rfl) (fun _ _ _ h => h) (Or.inl ⟨by rfl, ?_⟩) hS ?_
  rotate_left 1
  · intro w' hSw
    try dsimp only at hSw
    obtain ⟨q1, q2⟩ := hSw
    go_simp
    all_goals with_reducible rfl
  try simp only [Act.put, List.setIfInBounds_toArray, List.set_cons_zero, List.set_cons_succ]
  refine held_take (i := 6) (v := ?_) 17 rfl rfl (by kernel_rfl) (by kernel_rfl) (by kernel_rfl) (fun _ _ _ h => h) (Or.inl ⟨by rfl, ?_⟩) hS ?_
  rotate_left 1
  · intro w' hSw
    try dsimp only at hSw
    obtain ⟨q1, q2⟩ := hSw
    go_simp
    all_goals with_reducible rfl
  try simp only [Act.put, List.setIfInBounds_toArray, List.set_cons_zero, List.set_cons_succ]
  refine held_take (i := 9) (v := ?_) 20 rfl rfl (by kernel_rfl) (by kernel_rfl) (by kernel_rfl) (fun _ _ _ h => h) (Or.inl ⟨by rfl, ?_⟩) hS ?_
  rotate_left 1
  · intro w' hSw
    try dsimp only at hSw
    obtain ⟨q1, q2⟩ := hSw
    go_simp
    all_goals with_reducible rfl
  try simp only [Act.put, List.setIfInBounds_toArray, List.set_cons_zero, List.set_cons_succ]
  refine held_take (i := 10) (v := ?_) 21 rfl rfl (by kernel_rfl) (by kernel_rfl) (by kernel_rfl) (fun _ _ _ h => h) (Or.inl ⟨by rfl, ?_⟩) hS ?_
  rotate_left 1
  · intro w' hSw
    try dsimp only at hSw
    obtain ⟨q1, q2⟩ := hSw
    go_simp
    all_goals with_reducible rfl
  try simp only [Act.put, List.setIfInBounds_toArray, List.set_cons_zero, List.set_cons_succ]
  refine held_take (i := 12) (v := ?_) 23 rfl rfl (by kernel_rfl) (by kernel_rfl) (by kernel_rfl) (fun _ _ _ h => h) (Or.inl ⟨by rfl, ?_⟩) hS ?_
  rotate_left 1
  · intro w' hSw
    try dsimp only at hSw
    obtain ⟨q1, q2⟩ := hSw
    go_simp
    all_goals with_reducible rfl
  try simp only [Act.put, List.setIfInBounds_toArray, List.set_cons_zero, List.set_cons_succ]
  refine held_take (i := 13) (v := ?_) 24 rfl rfl (by kernel_rfl) (by kernel_rfl) (by kernel_rfl) (fun _ _ _ h => h) (Or.inl ⟨by rfl, ?_⟩) hS ?_
  rotate_left 1
  · intro w' hSw
    try dsimp only at hSw
    obtain ⟨q1, q2⟩ := hSw
    go_simp
    all_goals with_reducible rfl
  try simp only [Act.put, List.setIfInBounds_toArray, List.set_cons_zero, List.set_cons_succ]
  refine held_take (i := 14) (v := ?_) 25 rfl rfl (by kernel_rfl) (by kernel_rfl) (by kernel_rfl) (fun _ _ _ h => h) (Or.inl ⟨by rfl, ?_⟩) hS ?_
  rotate_left 1
  · intro w' hSw
    try dsimp only at hSw
    obtain ⟨q1, q2⟩ := hSw
    go_simp
    all_goals with_reducible rfl
  try simp only [Act.put, List.setIfInBounds_toArray, List.set_cons_zero, List.set_cons_succ]
  refine held_take (i := 15) (v := ?_) 26 rfl rfl (by kernel_rfl) (by kernel_rfl) (by kernel_rfl) (fun _ _ _ h => h) (Or.inl ⟨by rfl, ?_⟩) hS ?_
  rotate_left 1
  · intro w' hSw
    try dsimp only at hSw
    obtain ⟨q1, q2⟩ := hSw
    go_simp
    all_goals with_reducible rfl
  try simp only [Act.put, List.setIfInBounds_toArray, List.set_cons_zero, List.set_cons_succ]
  refine held_one (i := 2) (by kernel_rfl) rfl rfl (fun K hK => ?_)
  go_simp
  refine (hlo _ b1).mono ?_
  rintro e W ⟨P2, pc2, rfl, hp2, hb1⟩
  clear hS
  replace k3 := k3.below hb1
  replace k5 := k5.below hb1
  skip
  replace b1 := b1.trans (hb1.mono b1.size)
  clear hb1
  have hS : (fun w' : World => (∀ j, w'.cell? ⟨w.heap.size, j, none⟩ = #[Value.int .i64 s.head, .slice A n c, .int .i64 s.lane.lo, .int .i64 s.lane.hi, .int .i64 s.bend][j]?) ∧ (∀ j, w'.cell? ⟨w.heap.size + 1, j, none⟩ = #[Value.int .i64 d.lo, .int .i64 d.hi][j]?)) W := ⟨k3.cell, k5.cell⟩
  refine hK _ _ hS ?_
  clear hK K
  try simp only [Act.put, List.setIfInBounds_toArray, List.set_cons_zero, List.set_cons_succ]
  refine held_one (i := 7) (by kernel_rfl) rfl rfl (fun K hK => ?_)
  go_simp
  refine (hsm1 _).mono ?_
  rintro e W ⟨P7, pc7, rfl, hp7, hb1⟩
  clear hS
  replace k3 := k3.below hb1
  replace k5 := k5.below hb1
  replace hp2 := hp2.below hb1
  replace b1 := b1.trans (hb1.mono b1.size)
  clear hb1
  have hS : (fun w' : World => (∀ j, w'.cell? ⟨w.heap.size, j, none⟩ = #[Value.int .i64 s.head, .slice A n c, .int .i64 s.lane.lo, .int .i64 s.lane.hi, .int .i64 s.bend][j]?) ∧ (∀ j, w'.cell? ⟨w.heap.size + 1, j, none⟩ = #[Value.int .i64 d.lo, .int .i64 d.hi][j]?)) W := ⟨k3.cell, k5.cell⟩
  refine hK _ _ hS ?_
  clear hK K
  try simp only [Act.put, List.setIfInBounds_toArray, List.set_cons_zero, List.set_cons_succ]
  refine held_one (i := 8) (by kernel_rfl) rfl rfl (fun K hK => ?_)
  go_simp
  refine (hst1 _ _ _ _ _ _ _ b1 hp2 hp7).mono ?_
  rintro e W ⟨P8, pc8, rfl, hp8, hb1⟩
  clear hS
  replace k3 := k3.below hb1
  replace k5 := k5.below hb1
  clear hp2 hp7
  replace b1 := b1.trans (hb1.mono b1.size)
  clear hb1
  have hS : (fun w' : World => (∀ j, w'.cell? ⟨w.heap.size, j, none⟩ = #[Value.int .i64 s.head, .slice A n c, .int .i64 s.lane.lo, .int .i64 s.lane.hi, .int .i64 s.bend][j]?) ∧ (∀ j, w'.cell? ⟨w.heap.size + 1, j, none⟩ = #[Value.int .i64 d.lo, .int .i64 d.hi][j]?)) W := ⟨k3.cell, k5.cell⟩
  refine hK _ _ hS ?_
  clear hK K
  try simp only [Act.put, List.setIfInBounds_toArray, List.set_cons_zero, List.set_cons_succ]
  refine held_one (i := 11) (by kernel_rfl) rfl rfl (fun K hK => ?_)
  go_simp
  refine (hhi _ b1).mono ?_
  rintro e W ⟨P11, pc11, rfl, hp11, hb1⟩
  clear hS
  replace k3 := k3.below hb1
  replace k5 := k5.below hb1
  replace hp8 := hp8.below hb1
  replace b1 := b1.trans (hb1.mono b1.size)
  clear hb1
  have hS : (fun w' : World => (∀ j, w'.cell? ⟨w.heap.size, j, none⟩ = #[Value.int .i64 s.head, .slice A n c, .int .i64 s.lane.lo, .int .i64 s.lane.hi, .int .i64 s.bend][j]?) ∧ (∀ j, w'.cell? ⟨w.heap.size + 1, j, none⟩ = #[Value.int .i64 d.lo, .int .i64 d.hi][j]?)) W := ⟨k3.cell, k5.cell⟩
  refine hK _ _ hS ?_
  clear hK K
  try simp only [Act.put, List.setIfInBounds_toArray, List.set_cons_zero, List.set_cons_succ]
  refine held_one (i := 16) (by kernel_rfl) rfl rfl (fun K hK => ?_)
  go_simp
  refine (hsm2 _).mono ?_
  rintro e W ⟨P16, pc16, rfl, hp16, hb1⟩
  clear hS
  replace k3 := k3.below hb1
  replace k5 := k5.below hb1
  (replace hp8 := hp8.below hb1; replace hp11 := hp11.below hb1)
  replace b1 := b1.trans (hb1.mono b1.size)
  clear hb1
  have hS : (fun w' : World => (∀ j, w'.cell? ⟨w.heap.size, j, none⟩ = #[Value.int .i64 s.head, .slice A n c, .int .i64 s.lane.lo, .int .i64 s.lane.hi, .int .i64 s.bend][j]?) ∧ (∀ j, w'.cell? ⟨w.heap.size + 1, j, none⟩ = #[Value.int .i64 d.lo, .int .i64 d.hi][j]?)) W := ⟨k3.cell, k5.cell⟩
  refine hK _ _ hS ?_
  clear hK K
  try simp only [Act.put, List.setIfInBounds_toArray, List.set_cons_zero, List.set_cons_succ]
  refine held_one (i := 17) (by kernel_rfl) rfl rfl (fun K hK => ?_)
  go_simp
  refine (hst2 _ _ _ _ _ _ _ b1 hp11 hp16).mono ?_
  rintro e W ⟨P17, pc17, rfl, hp17, hb1⟩
  clear hS
  replace k3 := k3.below hb1
  replace k5 := k5.below hb1
  (clear hp11 hp16; replace hp8 := hp8.below hb1)
  replace b1 := b1.trans (hb1.mono b1.size)
  clear hb1
  have hS : (fun w' : World => (∀ j, w'.cell? ⟨w.heap.size, j, none⟩ = #[Value.int .i64 s.head, .slice A n c, .int .i64 s.lane.lo, .int .i64 s.lane.hi, .int .i64 s.bend][j]?) ∧ (∀ j, w'.cell? ⟨w.heap.size + 1, j, none⟩ = #[Value.int .i64 d.lo, .int .i64 d.hi][j]?)) W := ⟨k3.cell, k5.cell⟩
  refine hK _ _ hS ?_
  clear hK K
  try simp only [Act.put, List.setIfInBounds_toArray, List.set_cons_zero, List.set_cons_succ]
  refine held_take (i := 18) (v := ?_) 7 rfl rfl (by kernel_rfl) (by kernel_rfl) (by kernel_rfl) (fun _ _ _ h => h) (Or.inl ⟨by rfl, ?_⟩) hS ?_
  rotate_left 1
  · intro w' hSw
    try dsimp only at hSw
    obtain ⟨q1, q2⟩ := hSw
    go_simp
    all_goals with_reducible rfl
  try simp only [Act.put, List.setIfInBounds_toArray, List.set_cons_zero, List.set_cons_succ]
  refine held_take (i := 19) (v := ?_) 8 rfl rfl (by kernel_rfl) (by kernel_rfl) (by kernel_rfl) (fun _ _ _ h => h) (Or.inl ⟨by rfl, ?_⟩) hS ?_
  rotate_left 1
  · intro w' hSw
    try dsimp only at hSw
    obtain ⟨q1, q2⟩ := hSw
    go_simp
    all_goals with_reducible rfl
  try simp only [Act.put, List.setIfInBounds_toArray, List.set_cons_zero, List.set_cons_succ]
  refine wpAnyH_done (by kernel_rfl) (noPanic_normal ?_) _
  clear hS k3 k5 hst1 hst2 hsm1 hsm2 hlo hhi
  obtain ⟨w6, rfl⟩ : ∃ w6, w6 = W := ⟨_, rfl⟩
  have hLo := hp8
  have hHi := hp17
  have b6 := b1
  clear hp8 hp17 b1
  go_wp2_with fail
  go_loopw [9, 10] (fun v i wr => ∃ k : Nat, i = .int .i64 k ∧ k ≤ n ∧ wr.ownsRow w6.heap.size 24 2 v k ((E.take k).flatMap Bnd.cells) ∧ Below w6.heap.size w6 wr) (fun v i wr => n - (intOf i).toNat)
  case atStart => exact ⟨0, rfl, Nat.zero_le _, ⟨rfl, .inl ⟨rfl, rfl⟩⟩, Below.refl _ _⟩
  case round =>
    obtain ⟨k, rfl, hk, hown, hb⟩ := hrel
    by_cases hlt : k < n
    · obtain ⟨x, hx⟩ := some_of_lt hEl.out hlt
      have hx1 : (E.map (·.lo))[k]? = some x.lo := by rw [List.getElem?_map, hx]; rfl
      have hx2 : (E.map (·.hi))[k]? = some x.hi := by rw [List.getElem?_map, hx]; rfl
      have hnx : Hid ((E.take (k + 1)).flatMap Bnd.cells = (E.take k).flatMap Bnd.cells ++ [.int .i64 x.lo, .int .i64 x.hi]) := by show _ = _; rw [List.take_add_one, hx]; simp [Bnd.cells]
      obtain ⟨bL, oL, hA, -, hbL, e0⟩ := hLo.int hx1
      obtain ⟨bH, oH, hC, -, hbH, e1⟩ := hHi.int hx2
      subst hA
      subst hC
      replace hx := Lib.hid hx
      clear hx1 hx2
      have hk0 : (0 : Int) ≤ (k : Int) := by omega
      have hk1 : (k : Int) < (n : Int) := by omega
      go_wp2_with fail
      refine wp_held_np (fun w' : World => w'.cell? ⟨bL, oL + k, none⟩ = some (.int .i64 x.lo) ∧ w'.cell? ⟨bH, oH + k, none⟩ = some (.int .i64 x.hi)) (by kernel_rfl) ?_
      replace hown : wr.drew.ownsRow _ _ _ _ _ _ := hown
      replace hb := hb.drew
      generalize wr.drew = wd at *
      have hS : (fun w' : World => w'.cell? ⟨bL, oL + k, none⟩ = some (.int .i64 x.lo) ∧ w'.cell? ⟨bH, oH + k, none⟩ = some (.int .i64 x.hi)) wd := ⟨(hb.cell (p := ⟨bL, oL + k, none⟩) hbL).trans e0, (hb.cell (p := ⟨bH, oH + k, none⟩) hbH).trans e1⟩
      refine held_take (i := 0) (v := ?_) 35 rfl rfl (by kernel_rfl) (by kernel_rfl) (by kernel_rfl) (fun _ _ _ h => h) (Or.inl ⟨by rfl, ?_⟩) hS ?_
      rotate_left 1
      · intro w' hSw
        try dsimp only at hSw
        obtain ⟨q1, q2⟩ := hSw
        go_simp
        all_goals with_reducible rfl
      try simp only [Act.put, List.setIfInBounds_toArray, List.set_cons_zero, List.set_cons_succ]
      refine held_take (i := 1) (v := ?_) 36 rfl rfl (by kernel_rfl) (by kernel_rfl) (by kernel_rfl) (fun _ _ _ h => h) (Or.inl ⟨by rfl, ?_⟩) hS ?_
      rotate_left 1
      · intro w' hSw
        try dsimp only at hSw
        obtain ⟨q1, q2⟩ := hSw
        go_simp
        all_goals with_reducible rfl
      try simp only [Act.put, List.setIfInBounds_toArray, List.set_cons_zero, List.set_cons_succ]
      refine held_take (i := 2) (v := ?_) 37 rfl rfl (by kernel_rfl) (by kernel_rfl) (by kernel_rfl) (fun _ _ _ h => h) (Or.inl ⟨by rfl, ?_⟩) hS ?_
      rotate_left 1
      · intro w' hSw
        try dsimp only at hSw
        obtain ⟨q1, q2⟩ := hSw
        go_simp
        all_goals with_reducible rfl
      try simp only [Act.put, List.setIfInBounds_toArray, List.set_cons_zero, List.set_cons_succ]
      refine held_take (i := 3) (v := ?_) 38 rfl rfl (by kernel_rfl) (by kernel_rfl) (by kernel_rfl) (fun _ _ _ h => h) (Or.inl ⟨by rfl, ?_⟩) hS ?_
      rotate_left 1
      · intro w' hSw
        try dsimp only at hSw
        obtain ⟨q1, q2⟩ := hSw
        go_simp
        all_goals with_reducible rfl
      try simp only [Act.put, List.setIfInBounds_toArray, List.set_cons_zero, List.set_cons_succ]
      refine held_take (i := 4) (v := ?_) 39 rfl rfl (by kernel_rfl) (by kernel_rfl) (by kernel_rfl) (fun _ _ _ h => h) (Or.inl ⟨by rfl, ?_⟩) hS ?_
      rotate_left 1
      · intro w' hSw
        try dsimp only at hSw
        obtain ⟨q1, q2⟩ := hSw
        go_simp
        all_goals with_reducible rfl
      try simp only [Act.put, List.setIfInBounds_toArray, List.set_cons_zero, List.set_cons_succ]
      refine held_take (i := 5) (v := ?_) 40 rfl rfl (by kernel_rfl) (by kernel_rfl) (by kernel_rfl) (fun _ _ _ h => h) (Or.inl ⟨by rfl, ?_⟩) hS ?_
      rotate_left 1
      · intro w' hSw
        try dsimp only at hSw
        obtain ⟨q1, q2⟩ := hSw
        go_simp
        all_goals with_reducible rfl
      try simp only [Act.put, List.setIfInBounds_toArray, List.set_cons_zero, List.set_cons_succ]
      refine held_take (i := 6) (v := ?_) 41 rfl rfl (by kernel_rfl) (by kernel_rfl) (by kernel_rfl) (fun _ _ _ h => h) (Or.inl ⟨by rfl, ?_⟩) hS ?_
      rotate_left 1
      · intro w' hSw
        try dsimp only at hSw
        obtain ⟨q1, q2⟩ := hSw
        go_simp
        all_goals with_reducible rfl
      try simp only [Act.put, List.setIfInBounds_toArray, List.set_cons_zero, List.set_cons_succ]
      refine held_take (i := 7) (v := ?_) 42 rfl rfl (by kernel_rfl) (by kernel_rfl) (by kernel_rfl) (fun _ _ _ h => h) (Or.inl ⟨by rfl, ?_⟩) hS ?_
      rotate_left 1
      · intro w' hSw
        try dsimp only at hSw
        obtain ⟨q1, q2⟩ := hSw
        go_simp
        all_goals with_reducible rfl
      try simp only [Act.put, List.setIfInBounds_toArray, List.set_cons_zero, List.set_cons_succ]
      refine held_take (i := 8) (v := ?_) 43 rfl rfl (by kernel_rfl) (by kernel_rfl) (by kernel_rfl) (fun _ _ _ h => h) (Or.inl ⟨by rfl, ?_⟩) hS ?_
      rotate_left 1
      · intro w' hSw
        try dsimp only at hSw
        obtain ⟨q1, q2⟩ := hSw
        go_simp
        all_goals with_reducible rfl
      try simp only [Act.put, List.setIfInBounds_toArray, List.set_cons_zero, List.set_cons_succ]
      refine held_take (i := 9) (v := ?_) 44 rfl rfl (by kernel_rfl) (by kernel_rfl) (by kernel_rfl) (fun _ _ _ h => h) (Or.inl ⟨by rfl, ?_⟩) hS ?_
      rotate_left 1
      · intro w' hSw
        try dsimp only at hSw
        obtain ⟨q1, q2⟩ := hSw
        go_simp
        all_goals with_reducible rfl
      try simp only [Act.put, List.setIfInBounds_toArray, List.set_cons_zero, List.set_cons_succ]
      refine held_one (i := 10) (by kernel_rfl) rfl rfl (fun K hK => ?_)
      go_simp
      have hownf := hown.alloc (.cells #[.int .i64 x.lo, .int .i64 x.hi] 24)
      have hbf := hb.alloc hb.size (.cells #[.int .i64 x.lo, .int .i64 x.hi] 24)
      refine hK _ _ ⟨(hbf.cell (p := ⟨bL, oL + k, none⟩) hbL).trans e0, (hbf.cell (p := ⟨bH, oH + k, none⟩) hbH).trans e1⟩ ?_
      clear hK K hS
      try simp only [Act.put, List.setIfInBounds_toArray, List.set_cons_zero, List.set_cons_succ]
      refine held_one (i := 11) (by kernel_rfl) rfl rfl (fun K hK => ?_)
      have hbig1 : k + 1 ≤ maxLen := by unfold maxLen; omega
      have hbig2 : (k + 1) * 16 ≤ 140737488355328 := by omega
      obtain ⟨i0, hi0, hz0, hz1, hz2⟩ := info_parts Tryz.infoBnd
      have hnews : ∀ (j : Nat) (u : Value), ([.int .i64 x.lo, .int .i64 x.hi] : List Value)[j]? = some u → (wd.alloc (.cells #[.int .i64 x.lo, .int .i64 x.hi] 24)).cell? ((⟨wd.heap.size, 0, none⟩ : Addr).add j) = some u :=
        World.news_of_block (cs := #[.int .i64 x.lo, .int .i64 x.hi]) (World.alloc_heap_new wd _)
      refine wp_append_lies _ _ _ 27 (by rfl) w6.heap.size 24 i0 (.agg #[.int .i64 0, .int .i64 0]) 2 16 Tryz.underlying27 hi0 hz0 hz1 hz2 rfl (by omega) u9 k ((E.take k).flatMap Bnd.cells) (by rfl) hownf ⟨wd.heap.size, 0, none⟩ 1 1 [.int .i64 x.lo, .int .i64 x.hi] (by rfl) rfl hnews (by simp [Value.oneCell']) (by omega) hbig1 hbig2 hbf.size (wd.heap.size + 1) (by simp) ?_
      intro g cap w7 hown7 hgrow hlies hlt7
      have hbg : Below w6.heap.size _ w7 := ⟨hgrow.os, hgrow.tape, hgrow.output, hgrow.size, fun b hb2 => hgrow.block b (Nat.lt_of_lt_of_le hb2 hbf.size) (fun e => by have := (hownf.lt _ e.symm).1; omega)⟩
      have hbh := hbf.trans hbg
      refine hK _ _ ⟨(hbh.cell (p := ⟨bL, oL + k, none⟩) hbL).trans e0, (hbh.cell (p := ⟨bH, oH + k, none⟩) hbH).trans e1⟩ ?_
      clear hK K
      try simp only [Act.put, List.setIfInBounds_toArray, List.set_cons_zero, List.set_cons_succ]
      have hS : (fun w' : World => w'.cell? ⟨bL, oL + k, none⟩ = some (.int .i64 x.lo) ∧ w'.cell? ⟨bH, oH + k, none⟩ = some (.int .i64 x.hi)) w7 := ⟨(hbh.cell (p := ⟨bL, oL + k, none⟩) hbL).trans e0, (hbh.cell (p := ⟨bH, oH + k, none⟩) hbH).trans e1⟩
      refine held_take (i := 12) (v := ?_) 9 rfl rfl (by kernel_rfl) (by kernel_rfl) (by kernel_rfl) (fun _ _ _ h => h) (Or.inl ⟨by rfl, ?_⟩) hS ?_
      rotate_left 1
      · intro w' hSw
        try dsimp only at hSw
        obtain ⟨q1, q2⟩ := hSw
        go_simp
        all_goals with_reducible rfl
      try simp only [Act.put, List.setIfInBounds_toArray, List.set_cons_zero, List.set_cons_succ]
      refine wpAnyH_done (by kernel_rfl) (noPanic_normal ?_) _
      clear hS e0 e1 hLo hHi
      go_wp2_with fail
      go_roundw
      case rel =>
        refine ⟨k + 1, by go_num, by omega, ?_, hbh⟩
        rw [hnx.out]
        exact hown7
      case measure => simp [intOf]; omega
    · obtain rfl : k = n := by omega
      go_wp2
      go_ret
      have ht : E.take k = E := List.take_of_length_le (by rw [hEl.out]; exact Nat.le_refl _)
      rw [ht] at hown
      obtain ⟨P, pc, e2, h2⟩ := SlAt.of_own (enc := Bnd.cells) hown (by omega) E rfl (fun _ => rfl) hEl.out
      exact ⟨P, pc, by rw [e2]; rfl, h2.mono b6.size, b6.trans (hb.mono b6.size)⟩
end Go.Proofs.YtjiaepphnddpoaaGreat
