/-
  Walks: Clone of sections, Weakest.
-/
import Derived.Test.YthjdjpcomocffaaGreatM1
import Derived.Deep.AppendLies
namespace Go.Proofs.YthjdjpcomocffaaGreat
open Go.RowKit Go.Shelf
set_option linter.unusedSimpArgs false
set_option linter.unusedVariables false

/-- A section whose bird, if it has one, brings it back so far. -/
def birdS (m : Int) (x : Sec) : Sec := if x.bird = 0 then x else { x with bird := m }
def birdsTo (l : List Sec) (m : Int) (k : Nat) : List Sec := (l.take k).map (birdS m) ++ l.drop k
def birdsS (s : Strm) (m : Int) : Strm := { s with secs := s.secs.map (birdS m) }
theorem birdsTo_zero (l : List Sec) (m : Int) : birdsTo l m 0 = l := rfl
theorem birdsTo_all {l : List Sec} {m : Int} {k : Nat} (h : l.length = k) : birdsTo l m k = l.map (birdS m) := by
  subst h; unfold birdsTo; simp
theorem birdsTo_len (l : List Sec) (m : Int) (k : Nat) : (birdsTo l m k).length = l.length := by unfold birdsTo; simp; omega
theorem birdsTo_at {l : List Sec} {m : Int} {k : Nat} {x : Sec} (h : l[k]? = some x) : (birdsTo l m k)[k]? = some x := by
  have hk := (List.getElem?_eq_some_iff.1 h).1
  unfold birdsTo
  rw [List.getElem?_append_right (by simp; omega)]
  simp only [List.length_map, List.length_take, List.getElem?_drop]
  rw [show k + (k - min k l.length) = k by omega]; exact h
theorem birdsTo_set {l : List Sec} {m : Int} {k : Nat} {x : Sec} (h : l[k]? = some x) : birdsTo l m (k + 1) = (birdsTo l m k).set k (birdS m x) := by
  have hk := (List.getElem?_eq_some_iff.1 h).1
  refine List.ext_getElem? fun i => ?_
  rw [List.getElem?_set]
  have hl := birdsTo_len l m k
  by_cases hi : k = i
  · subst hi
    rw [if_pos rfl, if_pos (by omega)]
    unfold birdsTo
    rw [List.getElem?_append_left (by simp; omega), List.getElem?_map, List.getElem?_take_of_lt (by omega), h]; rfl
  · rw [if_neg hi]
    unfold birdsTo
    by_cases hlt : i < k
    · rw [List.getElem?_append_left (by simp; omega), List.getElem?_append_left (by simp; omega), List.getElem?_map, List.getElem?_map, List.getElem?_take_of_lt (by omega), List.getElem?_take_of_lt (by omega)]
    · rw [List.getElem?_append_right (by simp; omega), List.getElem?_append_right (by simp; omega)]
      simp only [List.length_map, List.length_take, List.getElem?_drop]
      rw [show k + 1 + (i - min (k + 1) l.length) = i by omega, show k + (i - min k l.length) = i by omega]
theorem birdsTo_same {l : List Sec} {m : Int} {k : Nat} {x : Sec} (h : l[k]? = some x) (h0 : x.bird = 0) : birdsTo l m (k + 1) = birdsTo l m k := by
  rw [birdsTo_set h]
  have e : birdS m x = x := by rw [birdS, if_pos h0]
  rw [e]
  refine List.ext_getElem? fun i => ?_
  rw [List.getElem?_set]
  by_cases hi : k = i
  · subst hi
    rw [if_pos rfl, birdsTo_at h, if_pos (by rw [birdsTo_len]; exact (List.getElem?_eq_some_iff.1 h).1)]
  · rw [if_neg hi]
theorem flat_inv {α : Type} {enc : α → List Value} {s : Nat} (he : ∀ x, (enc x).length = s) : ∀ (xs : List α) (j : Nat) (u : Value), (xs.flatMap enc)[j]? = some u → ∃ k x r, xs[k]? = some x ∧ (enc x)[r]? = some u ∧ j = k * s + r
  | [], j, u, h => by simp at h
  | x :: xs, j, u, h => by
    rw [List.flatMap_cons] at h
    by_cases hj : j < s
    · rw [List.getElem?_append_left (by rw [he]; exact hj)] at h
      exact ⟨0, x, j, rfl, h, by omega⟩
    · rw [List.getElem?_append_right (by rw [he]; omega), he] at h
      obtain ⟨k, y, r, h1, h2, h3⟩ := flat_inv he xs (j - s) u h
      exact ⟨k + 1, y, r, h1, h2, by rw [Nat.add_mul]; omega⟩
theorem flat_set {α : Type} {enc : α → List Value} {s : Nat} (he : ∀ x, (enc x).length = s) {x y : α} {j : Nat} {u : Value} (hj : j < s) (hy : enc y = (enc x).set j u) : ∀ (xs : List α) (k : Nat), xs[k]? = some x → (xs.flatMap enc).set (k * s + j) u = (xs.set k y).flatMap enc
  | [], k, h => by simp at h
  | z :: xs, 0, h => by
    simp at h; subst h
    rw [List.set_cons_zero, List.flatMap_cons, List.flatMap_cons, hy, Nat.zero_mul, Nat.zero_add, List.set_append_left _ _ (by rw [he]; exact hj)]
  | z :: xs, k + 1, h => by
    rw [List.set_cons_succ, List.flatMap_cons, List.flatMap_cons, List.set_append_right _ _ (by rw [he, Nat.add_mul]; omega), he, show (k + 1) * s + j - s = k * s + j from by rw [Nat.add_mul]; omega, flat_set he hj hy xs k (by simpa using h)]
theorem SlAt.news {α : Type} {w : World} {B s : Nat} {enc : α → List Value} {n c b off : Nat} {xs : List α} (he : ∀ x, (enc x).length = s) (h : SlAt w B s enc (some ⟨b, off, none⟩) n c xs) (hn : 0 < n) : ∀ (j : Nat) (u : Value), (xs.flatMap enc)[j]? = some u → w.cell? ((⟨b, off, none⟩ : Addr).add j) = some u := by
  intro j u hu
  obtain ⟨k, x, r, h1, h2, rfl⟩ := flat_inv he xs j u hu
  obtain ⟨b', off', hA, -, -, hc⟩ := h.2.2.2 hn
  simp only [Option.some.injEq, Addr.mk.injEq] at hA
  obtain ⟨rfl, rfl, -⟩ := hA
  have e : (⟨b, off, none⟩ : Addr).add (k * s + r) = ⟨b, off + (k * s + r), none⟩ := by unfold Addr.add; split <;> simp_all
  rw [e]
  exact hc k x h1 r u h2
theorem SlAt.own {α : Type} {enc : α → List Value} {s : Nat} {w : World} {base : Nat} {e : TypeId} {g n pc : Nat} {ys : List Value} (h : w.ownsRow base e s (.slice (some ⟨g, 0, none⟩) n pc) n ys) (hn : n ≤ 17592186044416) (xs : List α) (hx : ys = xs.flatMap enc) (he : ∀ x, (enc x).length = s) (hl : xs.length = n) :
    SlAt w base s enc (some ⟨g, 0, none⟩) n pc xs := by
  obtain ⟨A, c, e1, h1⟩ := SlAt.of_own h hn xs hx he hl
  simp only [Value.slice.injEq] at e1
  obtain ⟨rfl, -, rfl⟩ := e1
  exact h1
theorem flat_len {α : Type} {enc : α → List Value} {s : Nat} (he : ∀ x, (enc x).length = s) (xs : List α) : (xs.flatMap enc).length = xs.length * s := by
  induction xs with
  | nil => simp
  | cons x xs ih => rw [List.flatMap_cons, List.length_append, ih, he, List.length_cons, Nat.add_mul]; omega
theorem own_none (w : World) (t : TypeId) (s : Nat) : (w.alloc (.cells #[] t)).ownsRow w.heap.size t s (.slice (some ⟨w.heap.size, 0, none⟩) 0 0) 0 [] :=
  ⟨by simp, .inr ⟨w.heap.size, 0, #[], rfl, Nat.le_refl _, heap_alloc_new w _, Nat.le_refl _, by unfold maxLen; omega, by simp, by simp⟩⟩
theorem Tryz.infoSec : (Tryz.prog.info? 30).map (fun i => (i.zero, i.size, i.bytes)) = some (some (.agg #[.int .i64 0, .int .i64 0, .int .i64 0, .int .i64 0, .int .i64 0]), 5, 40) := by kernel_rfl
theorem sec_one (l : List Sec) : ∀ u ∈ l.flatMap Sec.cells, u.oneCell' = true := by
  intro u hu
  obtain ⟨x, -, hx⟩ := List.mem_flatMap.1 hu
  simp [Sec.cells] at hx
  rcases hx with rfl | rfl | rfl | rfl | rfl <;> rfl
set_option maxRecDepth 100000 in
set_option maxHeartbeats 1000000 in
theorem CloneSec_any (l : List Sec) (A : Option Addr) (n c B : Nat) (w : World) (hn0 : 0 < n) (hn : n ≤ 1000000) (hs : SlAt w B 5 Sec.cells A n c l) :
    Calls Tryz.prog 40 #[.slice A n c] w fun e w' => ∃ g pc, e = .returned (.slice (some ⟨g, 0, none⟩) n pc) ∧ w'.ownsRow w.heap.size 30 5 (.slice (some ⟨g, 0, none⟩) n pc) n (l.flatMap Sec.cells) ∧ Below w.heap.size w w' := by
  have hl := Lib.hid hs.len
  obtain ⟨b, off, hA, -, hbl, -⟩ := hs.2.2.2 hn0
  subst hA
  have hown := own_none w 30 5
  have hbf := (Below.refl w.heap.size w).alloc (Nat.le_refl _) (.cells #[] 30)
  have hnews := Lib.hid (SlAt.news (enc := Sec.cells) (s := 5) (fun _ => rfl) (hs.alloc (.cells #[] 30)) hn0)
  have hlen : Hid ((l.flatMap Sec.cells).length = n * 5) := by show _ = _; rw [flat_len (s := 5) (fun _ => rfl), hl.out]
  have hone := Lib.hid (sec_one l)
  have hbig1 : Hid (0 + n ≤ maxLen) := by show 0 + n ≤ maxLen; unfold maxLen; omega
  have hbig2 : Hid ((0 + n) * 40 ≤ 140737488355328) := by show (0 + n) * 40 ≤ 140737488355328; omega
  obtain ⟨i0, hi0, hz0, hz1, hz2⟩ := info_parts Tryz.infoSec
  clear hs
  have hnil := fun W => Lib.run_eql_slice_nil (P := Tryz.prog) W 22 30 (some ⟨b, off, none⟩) n c 0 0 Tryz.underlying22
  simp only [Option.isNone_some] at hnil
  go_enter Tryz.func40, Tryz.ntmps40
  go_wp2_with (at_builtin; refine wpList_append_lies _ rfl (.tmp 5) (.tmp 6) 22 rfl w.heap.size 30 i0 (.agg #[.int .i64 0, .int .i64 0, .int .i64 0, .int .i64 0, .int .i64 0]) 5 40 Tryz.underlying22 hi0 hz0 hz1 hz2 rfl (by decide) (.slice (some ⟨w.heap.size, 0, none⟩) 0 0) 0 [] rfl hown ⟨b, off, none⟩ n c (l.flatMap Sec.cells) rfl hlen.out hnews.out hone.out hn0 hbig1.out hbig2.out hbf.size (w.heap.size + 1) (by simp) ?_; intro g cap w7 hown7 hgrow hlies hlt7)
  go_ret
  have hbg : Below w.heap.size _ w7 := ⟨hgrow.os, hgrow.tape, hgrow.output, hgrow.size, fun b hb2 => hgrow.block b (Nat.lt_of_lt_of_le hb2 hbf.size) (fun e => by have := (hown.lt _ e.symm).1; omega)⟩
  refine ⟨g, cap, rfl, ?_, hbf.trans hbg⟩
  rw [Nat.zero_add, List.nil_append] at hown7
  exact hown7
theorem birds_ok {s : Strm} {m : Int} (h : okStrm s = true) (h0 : 0 ≤ m) (h1 : m ≤ 1000) : okStrm (birdsS s m) = true := by
  unfold okStrm at *
  simp only [Bool.and_eq_true, decide_eq_true_eq] at *
  obtain ⟨a, b⟩ := h
  refine ⟨?_, List.all_eq_true.2 fun x hx => ?_⟩
  · unfold headOk birdsS at *; dsimp only; rw [List.length_map]; exact a
  · obtain ⟨y, hy, rfl⟩ := List.mem_map.1 hx
    have := of_decide_eq_true (List.all_eq_true.1 b y hy)
    unfold birdS
    split
    · exact decide_eq_true this
    · refine decide_eq_true ?_
      dsimp only
      omega
theorem birds_offs {s : Strm} {bs : List Bnd} {m : Int} (h : okOffs s bs = true) : okOffs (birdsS s m) bs = true := by
  unfold okOffs birdsS at *
  dsimp only
  rw [List.length_map]; exact h
/-! The first number that keeps the limits. -/
def weakS (s : Strm) (bs : List Bnd) (l : List Wat) (v : List Int) : Int := fstN (fun m => keepsS (birdsS s (m : Int)) bs l v) 1001
def weakR (s : Strm) (bs : List Bnd) (l : List Wat) (v : List Int) : Int × Int :=
  if errW s bs l v = 0 then (if weakS s bs l v = -1 then (0, 4) else (weakS s bs l v, 0)) else (0, errW s bs l v)
def noneB (p : Nat → Bool) (k : Nat) : Prop := ∀ m, m < k → p m = false
theorem noneB_succ {p : Nat → Bool} {k : Nat} (h : noneB p k) (hk : p k = false) : noneB p (k + 1) := fun m hm => by
  by_cases e : m < k
  · exact h m e
  · obtain rfl : m = k := by omega
    exact hk
theorem fstN_first {p : Nat → Bool} {k : Nat} (h : noneB p k) (hk : p k = true) : ∀ n, k < n → fstN p n = k
  | 0, hn => absurd hn (Nat.not_lt_zero _)
  | n + 1, hn => by
    rw [fstN_step]
    by_cases e : k = n
    · subst e
      rw [(fstN_none k).2 h, if_neg (by omega), if_pos hk]
    · rw [fstN_first h hk n (by omega), if_pos (by omega)]
set_option maxRecDepth 100000 in
set_option maxHeartbeats 4000000 in
theorem Weakest_any (s : Strm) (A O D V : Option Addr) (n c no co nd cd nv cv : Nat) (bs : List Bnd) (l : List Wat) (v : List Int) (w : World) (hss : SlAt w 0 5 Sec.cells A n c s.secs) (hs : SlAt w 0 2 Bnd.cells O no co bs) (hd : SlAt w 0 4 Wat.cells D nd cd l) (hvv : SlAt w 0 1 ivs V nv cv v) :
    Calls Tryz.prog 13 #[.agg #[.int .i64 s.head, .slice A n c, .int .i64 s.lane.lo, .int .i64 s.lane.hi, .int .i64 s.bend], .slice O no co, .slice D nd cd, .slice V nv cv] w fun e w' =>
      e = .returned (.tuple #[.int .i64 (weakR s bs l v).1, .int .i64 (weakR s bs l v).2]) ∧ Below w.heap.size w w' := by
  by_cases h1 : errW s bs l v = 0
  · obtain ⟨o1, o2, o3, o4, o5, o6⟩ := errW_zero h1
    have hno : no = n := by have := okOffs_len o2; have := hs.len; have := hss.len; omega
    subst hno
    have hn8 : 1 ≤ no ∧ no ≤ 8 := by have := ok_head o1; unfold headOk at this; have := hss.len; omega
    have hln := Lib.hid hss.len
    have hkeep : ∀ (m : Nat) (W : World) (g pc : Nat), m ≤ 1000 → Below w.heap.size w W → SlAt W 0 5 Sec.cells (some ⟨g, 0, none⟩) no pc (s.secs.map (birdS m)) →
        Calls Tryz.prog 41 #[.agg #[.int .i64 s.head, .slice (some ⟨g, 0, none⟩) no pc, .int .i64 s.lane.lo, .int .i64 s.lane.hi, .int .i64 s.bend, .slice O no co], .slice D nd cd, .slice V nv cv] W fun e w' =>
          e = .returned (.bool (keepsS (birdsS s (m : Int)) bs l v)) ∧ Below W.heap.size W w' :=
      fun m W g pc hm hb hsec => keeps_any (birdsS s m) bs l v (some ⟨g, 0, none⟩) O D V no pc co nd cd nv cv W (birds_ok o1 (by omega) (by omega)) (birds_offs o2) o3 o4 o5 hsec (hs.below hb) (hd.below hb) (hvv.below hb)
    obtain ⟨p, hp⟩ : ∃ p : Nat → Bool, p = fun m : Nat => keepsS (birdsS s (m : Int)) bs l v := ⟨_, rfl⟩
    have hyes : Hid (∀ k, k ≤ 1000 → noneB p k → p k = true → weakR s bs l v = ((k : Int), 0)) := by
      show ∀ _, _
      intro k hk hz hpk
      have e : weakS s bs l v = k := by unfold weakS; rw [← hp]; exact fstN_first hz hpk 1001 (by omega)
      rw [weakR, if_pos h1, e, if_neg (by omega)]
    have hnone : Hid (noneB p 1001 → weakR s bs l v = (0, 4)) := by
      show _ → _
      intro hz
      have e : weakS s bs l v = -1 := by unfold weakS; rw [← hp]; exact (fstN_none 1001).2 hz
      rw [weakR, if_pos h1, e, if_pos rfl]
    replace hkeep : ∀ (m : Nat) (W : World) (g pc : Nat), m ≤ 1000 → Below w.heap.size w W → SlAt W 0 5 Sec.cells (some ⟨g, 0, none⟩) no pc (s.secs.map (birdS m)) →
        Calls Tryz.prog 41 #[.agg #[.int .i64 s.head, .slice (some ⟨g, 0, none⟩) no pc, .int .i64 s.lane.lo, .int .i64 s.lane.hi, .int .i64 s.bend, .slice O no co], .slice D nd cd, .slice V nv cv] W fun e w' =>
          e = .returned (.bool (p m)) ∧ Below W.heap.size W w' := by rw [hp]; exact hkeep
    replace hkeep := Lib.hid hkeep
    clear hp
    obtain ⟨⟨r1, r2⟩, hr⟩ : ∃ r, r = weakR s bs l v := ⟨_, rfl⟩
    rw [← hr] at hyes hnone ⊢
    clear hr
    replace h1 := Lib.hid h1
    replace o6 := Lib.hid o6
    clear o1 o2 o3 o4 o5
    go_enter Tryz.func13, Tryz.ntmps13
    go_wp2_with fail
    refine (watched_any s A O D V no c no co nd cd nv cv bs l v _ (hss.alloc _) (hs.alloc _) (hd.alloc _) (hvv.alloc _)).mono ?_
    rintro e w1 ⟨r3, r4, hb1⟩
    rw [h1.out] at r3
    obtain rfl := r3 o6.out
    clear r3 r4
    have k4 := (Blk.new w 26 #[.int .i64 s.head, .slice A no c, .int .i64 s.lane.lo, .int .i64 s.lane.hi, .int .i64 s.bend]).below hb1
    have b1 := ((Below.refl w.heap.size w).alloc (Nat.le_refl _) _).trans (hb1.mono (by simp))
    replace hss := hss.below b1
    clear hb1 hs hd hvv h1 o6
    go_wp2_with fail
    have k10 := Blk.new w1 85 #[.int .i64 s.head, .slice A no c, .int .i64 s.lane.lo, .int .i64 s.lane.hi, .int .i64 s.bend, .slice O no co]
    replace k4 := k4.alloc (.cells #[.int .i64 s.head, .slice A no c, .int .i64 s.lane.lo, .int .i64 s.lane.hi, .int .i64 s.bend, .slice O no co] 85)
    replace hss := hss.alloc (.cells #[.int .i64 s.head, .slice A no c, .int .i64 s.lane.lo, .int .i64 s.lane.hi, .int .i64 s.bend, .slice O no co] 85)
    replace b1 := b1.alloc b1.size (.cells #[.int .i64 s.head, .slice A no c, .int .i64 s.lane.lo, .int .i64 s.lane.hi, .int .i64 s.bend, .slice O no co] 85)
    generalize w1.alloc (.cells #[.int .i64 s.head, .slice A no c, .int .i64 s.lane.lo, .int .i64 s.lane.hi, .int .i64 s.bend, .slice O no co] 85) = W at *
    generalize w1.heap.size = g10 at *
    go_loopw [12] (fun j wr => ∃ k : Nat, j = .int .i64 k ∧ k ≤ 1001 ∧ noneB p k ∧ Below W.heap.size W wr) (fun j wr => 1001 - (intOf j).toNat)
    case atStart => exact ⟨0, rfl, Nat.zero_le _, fun m hm => by omega, Below.refl _ _⟩
    case round =>
      obtain ⟨k, rfl, hk, hz, hb⟩ := hrel
      replace hz := Lib.hid hz
      by_cases hlt : k < 1001
      · have hk1 : (k : Int) ≤ 1000 := by omega
        have hk0 : (0 : Int) ≤ (k : Int) := by omega
        have k10w := k10.below hb
        have k4w := k4.below hb
        have hssw := hss.below hb
        have bw := b1.trans (hb.mono b1.size)
        have hgW : W.heap.size ≤ wr.heap.size := hb.size
        obtain ⟨c10, f10, l10⟩ := k10w.rules
        obtain ⟨c4, f4, l4⟩ := k4w.rules
        go_wp2_with fail
        clear c10 f10 l10 c4 f4 l4
        have k13 := Blk.new wr 85 #[.int .i64 s.head, .slice A no c, .int .i64 s.lane.lo, .int .i64 s.lane.hi, .int .i64 s.bend, .slice O no co]
        replace hssw := hssw.alloc (.cells #[.int .i64 s.head, .slice A no c, .int .i64 s.lane.lo, .int .i64 s.lane.hi, .int .i64 s.bend, .slice O no co] 85)
        replace hb := hb.alloc hb.size (.cells #[.int .i64 s.head, .slice A no c, .int .i64 s.lane.lo, .int .i64 s.lane.hi, .int .i64 s.bend, .slice O no co] 85)
        clear k10w k4w bw
        generalize wr.alloc (.cells #[.int .i64 s.head, .slice A no c, .int .i64 s.lane.lo, .int .i64 s.lane.hi, .int .i64 s.bend, .slice O no co] 85) = Wa at *
        generalize wr.heap.size = g13 at *
        refine (CloneSec_any s.secs A no c 0 Wa (by omega) (by omega) hssw).mono ?_
        rintro e W2 ⟨g, pc, rfl, hown, hbel⟩
        have k13a := k13.below hbel
        have hbb := hb.trans (hbel.mono hb.size)
        have hg13 : g13 < Wa.heap.size := k13.lt
        have hgg : Wa.heap.size ≤ g := (hown.lt _ rfl).1
        have hown2 := ownsRow_setCell hown (p := ⟨g13, 1, none⟩) (by simp [Value.ownBlock]; omega) (.slice (some ⟨g, 0, none⟩) no pc)
        have k13b := k13a.set_ 1 (.slice (some ⟨g, 0, none⟩) no pc)
        have hbc := hbb.setCell (p := ⟨g13, 1, none⟩) hgW (.slice (some ⟨g, 0, none⟩) no pc)
        simp only [List.setIfInBounds_toArray, List.set_cons_zero, List.set_cons_succ] at k13b
        obtain ⟨c13, f13, l13⟩ := k13a.rules
        go_wp2_with fail
        clear c13 f13 l13 k13 k13a hbb hown hssw hbel
        generalize W2.setCell ⟨g13, 1, none⟩ (.slice (some ⟨g, 0, none⟩) no pc) = W3 at *
        go_loopw [42] (fun j wq => ∃ i : Nat, j = .int .i64 i ∧ i ≤ no ∧ Blk wq g13 85 #[.int .i64 s.head, .slice (some ⟨g, 0, none⟩) no pc, .int .i64 s.lane.lo, .int .i64 s.lane.hi, .int .i64 s.bend, .slice O no co] ∧ wq.ownsRow Wa.heap.size 30 5 (.slice (some ⟨g, 0, none⟩) no pc) no ((birdsTo s.secs k i).flatMap Sec.cells) ∧ Below W.heap.size W wq) (fun j wq => no - (intOf j).toNat)
        case atStart => exact ⟨0, rfl, Nat.zero_le _, k13b, hown2, hbc⟩
        case round =>
          obtain ⟨i, rfl, hi, k13, hown, hb⟩ := hrel
          by_cases hin : i < no
          · obtain ⟨x, hx⟩ := some_of_lt hln.out hin
            have hbl := birdsTo_len s.secs k i
            have hat := birdsTo_at (m := (k : Int)) hx
            have hsl := SlAt.own (enc := Sec.cells) hown (by omega) (birdsTo s.secs k i) rfl (fun _ => rfl) (by rw [hbl]; exact hln.out)
            obtain ⟨b9, off9, hA9, -, hb9, -, -, e2, -, -⟩ := hsl.sec hat
            simp only [Option.some.injEq, Addr.mk.injEq] at hA9
            obtain ⟨rfl, rfl, -⟩ := hA9
            rw [Nat.zero_add] at e2
            have hi0 : (0 : Int) ≤ (i : Int) := by omega
            have hi1 : (i : Int) < (no : Int) := by omega
            obtain ⟨c13, f13, l13⟩ := k13.rules
            have fr9 := hown.frozenAt (i * 5 + 2)
            by_cases hb0 : x.bird = 0
            · have hsame := Lib.hid (birdsTo_same (m := (k : Int)) hx hb0)
              rw [hb0] at e2
              replace hx := Lib.hid hx
              replace hat := Lib.hid hat
              replace hbl := Lib.hid hbl
              clear hb0
              go_wp2_with fail
              go_roundw
              case rel => exact ⟨i + 1, by go_num, by omega, k13, by rw [hsame.out]; exact hown, hb⟩
              case measure => simp [intOf]; omega
            · have hset := Lib.hid (birdsTo_set (m := (k : Int)) hx)
              have hbe : birdS (k : Int) x = { x with bird := (k : Int) } := by rw [birdS, if_neg hb0]
              have hfs := flat_set (enc := Sec.cells) (s := 5) (fun _ => rfl) (x := x) (y := birdS (k : Int) x) (j := 2) (u := .int .i64 k) (by omega) (by rw [hbe]; rfl) (birdsTo s.secs k i) i hat
              have hown3 := (hown.stored (i * 5 + 2) (.int .i64 (k : Int))).1
              rw [hfs, ← hset.out] at hown3
              have k13c := k13.far (p := ⟨g, i * 5 + 2, none⟩) (show g13 ≠ g by omega) (.int .i64 (k : Int))
              have hbd := hb.setCell (p := ⟨g, i * 5 + 2, none⟩) (show W.heap.size ≤ g by omega) (.int .i64 (k : Int))
              have hnb : (x.bird != 0) = true := by rw [bne_iff_ne]; exact hb0
              replace hx := Lib.hid hx
              replace hat := Lib.hid hat
              replace hbl := Lib.hid hbl
              replace hfs := Lib.hid hfs
              replace hbe := Lib.hid hbe
              go_wp2_with fail
              go_roundw
              case rel => exact ⟨i + 1, by go_num, by omega, k13c, hown3, hbd⟩
              case measure => simp [intOf]; omega
          · obtain rfl : i = no := by omega
            have hall := birdsTo_all (m := (k : Int)) hln.out
            rw [hall] at hown
            have hsl := (SlAt.own (enc := Sec.cells) hown (by omega) (s.secs.map (birdS k)) rfl (fun _ => rfl) (by rw [List.length_map]; exact hln.out)).mono (Nat.zero_le _)
            clear hall
            have bw := b1.trans (hb.mono b1.size)
            have hcall := hkeep.out k _ g pc (by omega) bw hsl
            cases hpk : p k with
            | true =>
              have hv := hyes.out k (by omega) hz.out hpk
              simp only [Prod.mk.injEq] at hv
              obtain ⟨rfl, rfl⟩ := hv
              rw [hpk] at hcall
              replace hpk := Lib.hid hpk
              obtain ⟨c13, f13, l13⟩ := k13.rules
              go_wp2_with fail
              refine hcall.mono ?_
              rintro e W5 ⟨rfl, hbel⟩
              go_wp2
              go_ret2
              exact ⟨rfl, bw.trans (hbel.mono bw.size)⟩
            | false =>
              have hz2 := noneB_succ hz.out hpk
              rw [hpk] at hcall
              replace hpk := Lib.hid hpk
              replace hz2 := Lib.hid hz2
              obtain ⟨c13, f13, l13⟩ := k13.rules
              go_wp2_with fail
              refine hcall.mono ?_
              rintro e W5 ⟨rfl, hbel⟩
              clear c13 f13 l13
              go_wp2_with fail
              go_roundw
              case rel => exact ⟨k + 1, by go_num, by omega, hz2.out, hb.trans (hbel.mono hb.size)⟩
              case measure => simp [intOf]; omega
      · obtain rfl : k = 1001 := by omega
        have hv := hnone.out hz.out
        simp only [Prod.mk.injEq] at hv
        obtain ⟨rfl, rfl⟩ := hv
        have bw := b1.trans (hb.mono b1.size)
        go_wp2
        go_ret2
        exact ⟨rfl, bw⟩
  · have hv : weakR s bs l v = (0, errW s bs l v) := by simp [weakR, h1]
    rw [hv]
    dsimp only
    have h1' : (errW s bs l v != 0) = true := by rw [bne_iff_ne]; exact h1
    replace h1 := Lib.hid h1
    clear hv
    by_cases h2 : errB s bs = 0
    · replace h2 := Lib.hid h2
      go_enter Tryz.func13, Tryz.ntmps13
      go_wp2_with fail
      refine (watched_any s A O D V n c no co nd cd nv cv bs l v _ (hss.alloc _) (hs.alloc _) (hd.alloc _) (hvv.alloc _)).mono ?_
      rintro e w1 ⟨r1, r2, hb1⟩
      obtain rfl := r1 h2.out
      clear r1 r2
      have b1 := ((Below.refl w.heap.size w).alloc (Nat.le_refl _) _).trans (hb1.mono (by simp))
      go_wp2
      go_ret2
      exact ⟨rfl, b1.alloc b1.size _⟩
    · replace h2 := Lib.hid h2
      go_enter Tryz.func13, Tryz.ntmps13
      go_wp2_with fail
      refine (watched_any s A O D V n c no co nd cd nv cv bs l v _ (hss.alloc _) (hs.alloc _) (hd.alloc _) (hvv.alloc _)).mono ?_
      rintro e w1 ⟨r1, r2, hb1⟩
      obtain rfl := r2 h2.out
      clear r1 r2
      have b1 := ((Below.refl w.heap.size w).alloc (Nat.le_refl _) _).trans (hb1.mono (by simp))
      go_wp2
      go_ret2
      exact ⟨rfl, b1.alloc b1.size _⟩
end Go.Proofs.YthjdjpcomocffaaGreat
