/-
  The specification's package: the error of a streamer with bounds; the bounds after a step.
-/
import Derived.Test.YtjiaepphnddpoaaGreatR5
import Derived.Test.YtjiaepphnddpoaaGreatW5
namespace Go.Proofs.YtjiaepphnddpoaaGreat
open Go.RowKit Go.Shelf
set_option linter.unusedSimpArgs false
set_option linter.unusedVariables false

theorem errB_of {s : Strm} {l : List Bnd} (h : okStrm s = true) : errB s l = if (decide (l.length = s.secs.length) && l.all (okBnd 16384)) = true then 0 else 31 := by simp [errB, h, okOffs]
theorem bndTo_succ {m : Int} {l : List Bnd} {k : Nat} {x : Bnd} (hk : l[k]? = some x) : (l.take (k + 1)).all (okBnd m) = ((l.take k).all (okBnd m) && okBnd m x) := by
  rw [List.take_add_one, hk]; simp
set_option maxRecDepth 100000 in
set_option maxHeartbeats 1000000 in
theorem Rbegun_any (s : Strm) (A O : Option Addr) (n c no co B1 B : Nat) (l : List Bnd) (w : World) (hss : SlAt w B1 5 Sec.cells A n c s.secs) (hs : SlAt w B 2 Bnd.cells O no co l) :
    Calls Tryz.prog 75 #[.agg #[.int .i64 s.head, .slice A n c, .int .i64 s.lane.lo, .int .i64 s.lane.hi, .int .i64 s.bend], .slice O no co] w fun e w' => e = .returned (.int .i64 (errB s l)) ∧ Below w.heap.size w w' := by
  have hl := Lib.hid hs.len
  have hsl := Lib.hid hss.len
  have hno := hs.le
  have hchk := fun W (hW : Below w.heap.size w W) => RCheck_any s A n c B1 W (hss.below hW)
  cases h1 : okStrm s
  · have hv : Hid (errB s l = 30) := by show _ = _; simp [errB, h1]
    have hk : chkStrm s = 30 := by simp [chkStrm, h1]
    simp only [hk] at hchk
    clear hk h1 hss hs
    go_enter Tryz.func75, Tryz.ntmps75
    go_wp2_with fail
    refine (hchk _ ((Below.refl _ _).alloc (Nat.le_refl _) _)).mono ?_
    rintro e w1 ⟨rfl, hb1⟩
    go_wp2
    go_ret
    exact ⟨ret_int hv.out.symm, ((Below.refl w.heap.size w).alloc (Nat.le_refl _) _).trans (hb1.mono (by simp))⟩
  · have hv := Lib.hid (errB_of (l := l) h1)
    have hk : chkStrm s = 0 := by simp [chkStrm, h1]
    have hde : Hid (decide (l.length = s.secs.length) = decide ((no : Int) = (n : Int))) := by show _ = _; rw [hl.out, hsl.out]; apply dec_eq; omega
    simp only [hk] at hchk
    clear hk h1 hss
    go_enter Tryz.func75, Tryz.ntmps75
    go_wp2_with fail
    refine (hchk _ ((Below.refl _ _).alloc (Nat.le_refl _) _)).mono ?_
    rintro e w1 ⟨rfl, hb1⟩
    have k3 := (Blk.new w 26 #[.int .i64 s.head, .slice A n c, .int .i64 s.lane.lo, .int .i64 s.lane.hi, .int .i64 s.bend]).below hb1
    have b1 := ((Below.refl w.heap.size w).alloc (Nat.le_refl _) _).trans (hb1.mono (by simp))
    clear hb1 hchk
    obtain ⟨c3, f3, l3⟩ := k3.rules
    go_wp2_with fail
    clear c3 f3 l3 k3
    go_loopw [6, 7] (fun q i wr => ∃ k : Nat, i = .int .i64 k ∧ k ≤ no ∧ q = .bool (decide ((no : Int) = (n : Int)) && (l.take k).all (okBnd 16384)) ∧ Below w.heap.size w wr) (fun q i wr => no - (intOf i).toNat)
    case atStart => exact ⟨0, rfl, Nat.zero_le _, congrArg Value.bool (by rw [List.take_zero, List.all_nil, Bool.and_true, Bool.eq_iff_iff]; simp), b1⟩
    case round =>
      obtain ⟨k, rfl, hk, rfl, hb⟩ := hrel
      by_cases hlt : k < no
      · obtain ⟨x, hx⟩ := some_of_lt hl.out hlt
        have hst := Lib.hid (bndTo_succ (m := 16384) hx)
        obtain ⟨b, off, rfl, -, hbl, c0, c1⟩ := (hs.keep hb.size (fun _ _ h => hb.cell h)).bnd hx
        replace hx := Lib.hid hx
        clear hs
        have hk0 : (0 : Int) ≤ (k : Int) := by omega
        have hk1 : (k : Int) < (no : Int) := by omega
        have hE := fun W => rends_any x (-16384) 16384 W
        obtain ⟨ok, hok⟩ : ∃ ok, okBnd 16384 x = ok := ⟨_, rfl⟩
        have hok2 : decide (-16384 ≤ x.lo ∧ x.lo ≤ x.hi ∧ x.hi ≤ 16384) = ok := hok
        simp only [hok2] at hE
        rw [hok] at hst
        clear hok hok2
        cases hq : (decide ((no : Int) = (n : Int)) && (l.take k).all (okBnd 16384)) with
        | false =>
          have hst2 : Hid ((decide ((no : Int) = (n : Int)) && (l.take (k + 1)).all (okBnd 16384)) = false) := by show _ = _; rw [hst.out, ← Bool.and_assoc, hq]; rfl
          clear hq
          go_wp2
          go_roundw
          case rel => exact ⟨k + 1, by go_num, by omega, by rw [hst2.out], hb⟩
          case measure => simp [intOf]; omega
        | true =>
          have hst2 : Hid ((decide ((no : Int) = (n : Int)) && (l.take (k + 1)).all (okBnd 16384)) = ok) := by show _ = _; rw [hst.out, ← Bool.and_assoc, hq]; simp
          clear hq
          go_wp2_with fail
          refine (hE _).mono ?_
          rintro e w' ⟨rfl, hb1⟩
          go_wp2
          go_roundw
          case rel => exact ⟨k + 1, by go_num, by omega, by rw [hst2.out], hb.trans (hb1.mono hb.size)⟩
          case measure => simp [intOf]; omega
      · obtain rfl : k = no := by omega
        have ht : l.take k = l := List.take_of_length_le (by rw [hl.out]; exact Nat.le_refl _)
        rw [ht]
        rw [hde.out] at hv
        cases hq : (decide ((k : Int) = (n : Int)) && l.all (okBnd 16384)) with
        | false =>
          rw [hq] at hv
          replace hq := Lib.hid hq
          go_wp2
          go_ret
          exact ⟨ret_int (by rw [hv.out]; rfl), hb⟩
        | true =>
          rw [hq] at hv
          replace hq := Lib.hid hq
          go_wp2
          go_ret
          exact ⟨ret_int (by rw [hv.out]; rfl), hb⟩
theorem okOffs_get {s : Strm} {l : List Bnd} (h : okOffs s l = true) {x : Bnd} (hx : x ∈ l) : -16384 ≤ x.lo ∧ x.lo ≤ x.hi ∧ x.hi ≤ 16384 := by
  unfold okOffs at h
  simp only [Bool.and_eq_true, decide_eq_true_eq] at h
  exact of_decide_eq_true (List.all_eq_true.1 h.2 x hx)
theorem okNums_of {s : Strm} {l : List Int} {m : Int} (h : l.length = s.secs.length) (h2 : ∀ x ∈ l, -m ≤ x ∧ x ≤ m) : okNums s l m = true := by
  unfold okNums
  rw [h]
  simp only [decide_true, Bool.true_and, List.all_eq_true]
  intro x hx
  exact decide_eq_true (h2 x hx)
theorem okNums_lo {s : Strm} {l : List Bnd} (h : okOffs s l = true) : okNums s (l.map (·.lo)) 16384 = true := by
  refine okNums_of (by rw [List.length_map, okOffs_len h]) fun x hx => ?_
  obtain ⟨y, hy, rfl⟩ := List.mem_map.1 hx
  have := okOffs_get h hy
  omega
theorem encL_lo (s : Strm) (l : List Bnd) (d : Bnd) : (encL s l d).map (·.lo) = stepL s (l.map (·.lo)) (List.replicate l.length d.lo) := by
  unfold encL stepL eachL
  rw [List.map_map, List.length_map]
  refine List.map_congr_left fun i hi => ?_
  have hi2 : i < l.length := List.mem_range.1 hi
  have h1 : (l.map (·.lo)).getD i s.head = (l.getD i (still s.head)).lo := by
    rw [List.getD_eq_getElem?_getD, List.getD_eq_getElem?_getD, List.getElem?_map, List.getElem?_eq_getElem hi2]; rfl
  have h2 : prev s.head (l.map (·.lo)) i = (prev (still s.head) l i).lo := by
    cases i with
    | zero => rfl
    | succ q =>
      show (l.map (·.lo)).getD q s.head = (l.getD q (still s.head)).lo
      rw [List.getD_eq_getElem?_getD, List.getD_eq_getElem?_getD, List.getElem?_map, List.getElem?_eq_getElem (show q < l.length by omega)]; rfl
  have h3 : (List.replicate l.length d.lo).getD i 0 = d.lo := by
    rw [List.getD_eq_getElem?_getD, List.getElem?_replicate, if_pos hi2]; rfl
  show (encB s d i (l.getD i (still s.head)) (prev (still s.head) l i)).lo = _
  rw [h1, h2]
  show _ = eased s (s.sec i) _ _ ((List.replicate l.length d.lo).getD i 0)
  rw [h3]
  rfl
theorem okNums_hi {s : Strm} {l : List Bnd} (h : okOffs s l = true) : okNums s (l.map (·.hi)) 16384 = true := by
  refine okNums_of (by rw [List.length_map, okOffs_len h]) fun x hx => ?_
  obtain ⟨y, hy, rfl⟩ := List.mem_map.1 hx
  have := okOffs_get h hy
  omega
theorem encL_hi (s : Strm) (l : List Bnd) (d : Bnd) : (encL s l d).map (·.hi) = stepL s (l.map (·.hi)) (List.replicate l.length d.hi) := by
  unfold encL stepL eachL
  rw [List.map_map, List.length_map]
  refine List.map_congr_left fun i hi => ?_
  have hi2 : i < l.length := List.mem_range.1 hi
  have h1 : (l.map (·.hi)).getD i s.head = (l.getD i (still s.head)).hi := by
    rw [List.getD_eq_getElem?_getD, List.getD_eq_getElem?_getD, List.getElem?_map, List.getElem?_eq_getElem hi2]; rfl
  have h2 : prev s.head (l.map (·.hi)) i = (prev (still s.head) l i).hi := by
    cases i with
    | zero => rfl
    | succ q =>
      show (l.map (·.hi)).getD q s.head = (l.getD q (still s.head)).hi
      rw [List.getD_eq_getElem?_getD, List.getD_eq_getElem?_getD, List.getElem?_map, List.getElem?_eq_getElem (show q < l.length by omega)]; rfl
  have h3 : (List.replicate l.length d.hi).getD i 0 = d.hi := by
    rw [List.getD_eq_getElem?_getD, List.getElem?_replicate, if_pos hi2]; rfl
  show (encB s d i (l.getD i (still s.head)) (prev (still s.head) l i)).hi = _
  rw [h1, h2]
  show _ = eased s (s.sec i) _ _ ((List.replicate l.length d.hi).getD i 0)
  rw [h3]
  rfl
theorem okNums_rep {s : Strm} {l : List Bnd} {x : Int} (h : okOffs s l = true) (hx : -100 ≤ x ∧ x ≤ 100) : okNums s (List.replicate l.length x) 100 = true := by
  refine okNums_of (by rw [List.length_replicate, okOffs_len h]) fun y hy => ?_
  rw [List.eq_of_mem_replicate hy]
  exact hx
theorem encL_len (s : Strm) (l : List Bnd) (d : Bnd) : (encL s l d).length = l.length := by simp [encL, eachL]
end Go.Proofs.YtjiaepphnddpoaaGreat
