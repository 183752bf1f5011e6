/-
  Shots, walks: the losses of the specification, which call themselves.
-/
import Derived.Test.YtfengddpfeneiaaS24
import Derived.Test.YtfengddpfeneiaaS29
import Derived.Test.YtfengddpfeneiaaS47
namespace Go.Proofs.Ytfengddpfeneiaa
open Go.RowKit Go.Shelf
set_option linter.unusedSimpArgs false
set_option linter.unusedVariables false
attribute [local irreducible] wpStill

/-- What a call turns: the row that was handed in; all else lies as it lay. -/
def RwFr (row : Option Nat) (W W' : World) : Prop :=
  W'.os = W.os ∧ W'.tape = W.tape ∧ W'.output = W.output ∧ W.heap.size ≤ W'.heap.size ∧ ∀ k, k < W.heap.size → row ≠ some k → W'.heap[k]? = W.heap[k]?
theorem RwFr.of_below {row : Option Nat} {W W' : World} (h : Below W.heap.size W W') : RwFr row W W' := ⟨h.os, h.tape, h.output, h.size, fun k hk _ => h.block k hk⟩
theorem RwFr.refl (row : Option Nat) (W : World) : RwFr row W W := ⟨rfl, rfl, rfl, Nat.le_refl _, fun _ _ _ => rfl⟩
theorem RwFr.trans {r1 r2 : Option Nat} {A C D : World} (h : RwFr r1 A C) (k : RwFr r2 C D) (hr : ∀ b, r2 = some b → r1 = some b ∨ A.heap.size ≤ b) : RwFr r1 A D := by
  obtain ⟨h1, h2, h3, h4, h5⟩ := h
  obtain ⟨k1, k2, k3, k4, k5⟩ := k
  refine ⟨k1.trans h1, k2.trans h2, k3.trans h3, Nat.le_trans h4 k4, fun i hi hr1 => ?_⟩
  refine (k5 i (by omega) fun e => ?_).trans (h5 i hi hr1)
  rcases hr i e with h | h
  · exact hr1 h
  · omega
theorem RwFr.sl {row : Option Nat} {W W' : World} (h : RwFr row W W') {α : Type} {B s : Nat} {enc : α → List Value} {A : Option Addr} {n c : Nat} {xs : List α} (k : SlAt W B s enc A n c xs) (hA : 0 < n → ∀ b o, A = some ⟨b, o, none⟩ → row ≠ some b) : SlAt W' B s enc A n c xs := by
  by_cases hn : 0 < n
  · exact k.keepB h.2.2.2.1 fun b o e => h.2.2.2.2 b (k.blk hn b o e).2 (hA hn b o e)
  · exact ⟨k.1, k.2.1, k.2.2.1, fun h => absurd h hn⟩
theorem RwFr.blk {row : Option Nat} {W W' : World} (h : RwFr row W W') {q : Nat} {t : TypeId} {cs : Array Value} (k : Blk W q t cs) (h2 : row ≠ some q) : Blk W' q t cs := (h.2.2.2.2 q k.lt h2).trans k
theorem RwFr.below {W W' : World} (h : RwFr none W W') : Below W.heap.size W W' := ⟨h.1, h.2.1, h.2.2.1, h.2.2.2.1, fun b hb => h.2.2.2.2 b hb (by simp)⟩
theorem LLs.at2 {W : World} {B : Nat} {O : Option Addr} {no co : Nat} {L : List (List Int)} (h : LLs W B O no co L) {i : Nat} {l : List Int} (hi : L[i]? = some l) :
    ∃ b off A m d, O = some ⟨b, off, none⟩ ∧ b < W.heap.size ∧ W.cell? ⟨b, off + i, none⟩ = some (.slice A m d) ∧ SlAt W B 1 ivs A m d l := by
  obtain ⟨h1, vs, h2, h3⟩ := h
  have hl := (List.getElem?_eq_some_iff.1 hi).1
  obtain ⟨v, hv⟩ := some_of_lt (xs := vs) h2.len (show i < no by omega)
  obtain ⟨A, m, d, rfl, hA⟩ := h3 i v l hv hi
  obtain ⟨b, off, hO, hB, hb, hc⟩ := h2.at_ hv
  have h0 := hc 0 _ rfl
  exact ⟨b, off, A, m, d, hO, hb, by simpa using h0, hA⟩
/-- A list of lists of one's own: a row, and the lists apart from it. -/
def LsOut (W : World) (B0 : Nat) (O : Option Addr) (no co : Nat) (L : List (List Int)) : Prop :=
  L.length = no ∧ ∃ vs : List Value, W.ownsRow B0 22 1 (.slice O no co) no vs ∧ ∀ (i : Nat) (v : Value) (l : List Int), vs[i]? = some v → L[i]? = some l → ElmAt W B0 (Value.slice O no co).ownBlock v l
theorem LsOut.nil (W : World) (B0 : Nat) : LsOut W B0 none 0 0 [] := ⟨rfl, [], ⟨rfl, .inl ⟨rfl, rfl⟩⟩, fun i v l hv => by simp at hv⟩
theorem LsOut.below {W W' : World} {B0 : Nat} {O : Option Addr} {no co : Nat} {L : List (List Int)} (h : LsOut W B0 O no co L) (hb : Below W.heap.size W W') : LsOut W' B0 O no co L := by
  obtain ⟨h2, vs, h3, h4⟩ := h
  exact ⟨h2, vs, ownsRow_below h3 hb, fun i v l hv hl => (h4 i v l hv hl).keep hb.size fun b _ hlt _ => hb.block b hlt⟩
theorem LsOut.lls {W : World} {B0 : Nat} {O : Option Addr} {no co : Nat} {L : List (List Int)} (h : LsOut W B0 O no co L) (hn : no ≤ 17592186044416) : LLs W B0 O no co L := by
  obtain ⟨h2, vs, h3, h4⟩ := h
  have hvl : vs.length = no := by have := h3.1; omega
  obtain ⟨A, c, e, h5⟩ := SlAt.of_own (enc := fun v => [v]) h3 hn vs (flatMap_self vs).symm (fun _ => rfl) hvl
  simp only [Value.slice.injEq, true_and] at e
  obtain ⟨rfl, rfl⟩ := e
  exact ⟨h2, vs, h5, fun i v l hv hl => by obtain ⟨b, m, d, e1, e2, -, -⟩ := h4 i v l hv hl; exact ⟨_, m, d, e1, e2⟩⟩
theorem LsOut.row {W : World} {B0 : Nat} {O : Option Addr} {no co : Nat} {L : List (List Int)} (h : LsOut W B0 O no co L) : ∀ q, (Value.slice O no co).ownBlock = some q → B0 ≤ q ∧ q < W.heap.size := by
  obtain ⟨_, vs, h3, _⟩ := h
  exact fun q e => h3.lt q e
def lowB (B0 : Nat) (A : Option Addr) : Prop := ∀ b o, A = some ⟨b, o, none⟩ → b < B0
/-- What a call of losses has done. -/
def LsPost (B0 : Nat) (O : Option Addr) (no co : Nat) (L' : List (List Int)) (add : Nat) (w : World) (e : Ending) (w' : World) : Prop :=
  ∃ O' no' co', e = .returned (.slice O' no' co') ∧ LsOut w' B0 O' no' co' L' ∧ RwFr (Value.slice O no co).ownBlock w w' ∧ (∀ q, (Value.slice O' no' co').ownBlock = some q → (Value.slice O no co).ownBlock = some q ∨ w.heap.size ≤ q) ∧ no' ≤ no + add
def LsFor (a : Arr) (limit : Int) (S G : Option Addr) (ns cs ng cg B0 : Nat) (m : Nat) : Prop :=
  ∀ (loss : List Int) (D : Option Addr) (nd cd fr : Nat) (L : List (List Int)) (O : Option Addr) (no co : Nat) (w : World), SlAt w 0 1 ivs S ns cs a.sh → SlAt w 0 4 Gun.cells G ng cg a.gs → LsOut w B0 O no co L → SlAt w 0 1 ivs D nd cd loss →
    (0 < nd → ∀ q o, D = some ⟨q, o, none⟩ → (Value.slice O no co).ownBlock ≠ some q) → (m = 0 → ∃ q, D = some ⟨q, 0, none⟩ ∧ SlAt w B0 1 ivs D nd cd loss) → 1 ≤ nd + m → nd + m ≤ 8 → fr ≤ 100 → B0 ≤ w.heap.size → no + 8 ^ m ≤ 100000 →
    Calls Try.prog 86 #[.agg #[.slice S ns cs, .slice G ng cg], .int .i64 limit, .slice D nd cd, .int .i64 (fr : Int), .int .i64 (m : Int), .slice O no co] w (LsPost B0 O no co (srchS a limit m fr loss L) (8 ^ m) w)
theorem holds_no {L : List (List Int)} {k : Nat} {x loss : List Int} (h : holdsOne (L.take k) loss = false) (hx : L[k]? = some x) (hc : hasAll x loss = false) : holdsOne (L.take (k + 1)) loss = false := by
  unfold holdsOne at *
  rw [List.take_add_one, hx, List.any_append, h]
  simpa using hc
theorem holds_yes {L : List (List Int)} {k : Nat} {x loss : List Int} (hx : L[k]? = some x) (hc : hasAll x loss = true) : holdsOne L loss = true := by
  unfold holdsOne
  rw [List.any_eq_true]
  exact ⟨x, List.mem_of_getElem? hx, hc⟩
set_option maxRecDepth 100000 in
set_option maxHeartbeats 4000000 in
theorem losses_zero (a : Arr) (ha : okArr a = true) (limit : Int) (S G : Option Addr) (ns cs ng cg B0 : Nat) (hlS : lowB B0 S) (hlG : lowB B0 G) : LsFor a limit S G ns cs ng cg B0 0 := by
  intro loss D nd cd fr L O no co w hS hG hO hD hDr hDz h1 h8 hfr hB hno
  obtain ⟨gd, rfl, hD0⟩ := hDz rfl
  have hDr2 : (Value.slice O no co).ownBlock ≠ some gd := hDr (by omega) gd 0 rfl
  have hsr : Hid (srchS a limit 0 fr loss L = if holdsOne L loss = true then L else if limit < misS a (onL a) loss then L ++ [loss] else L) := by show _ = _; rfl
  have hhu := fun W h1 h2 h3 => Rhurts_any a ha limit loss S G (some ⟨gd, 0, none⟩) ns cs ng cg nd cd W h1 h2 h3
  obtain ⟨w1, hw1⟩ : ∃ w1, w1 = w.alloc (.cells #[.slice S ns cs, .slice G ng cg] 25) := ⟨_, rfl⟩
  have k3 : Blk w1 w.heap.size 25 #[.slice S ns cs, .slice G ng cg] := by rw [hw1]; exact Blk.new _ _ _
  have b : Below w.heap.size w w1 := by rw [hw1]; exact (Below.refl _ _).alloc (Nat.le_refl _) _
  have hS1 : SlAt w1 0 1 ivs S ns cs a.sh := by rw [hw1]; exact hS.alloc _
  have hG1 : SlAt w1 0 4 Gun.cells G ng cg a.gs := by rw [hw1]; exact hG.alloc _
  have hD1 : SlAt w1 0 1 ivs (some ⟨gd, 0, none⟩) nd cd loss := by rw [hw1]; exact hD.alloc _
  have hO1 : LsOut w1 B0 O no co L := hO.below b
  have hrow := hO.row
  have hdb := hD0.blk (by omega) gd 0 rfl
  replace hD0 := hD0.below b
  clear hS hG hO hD
  have hol := hO1.1
  show Calls Try.prog 86 #[.agg #[.slice S ns cs, .slice G ng cg], .int .i64 limit, .slice (some ⟨gd, 0, none⟩) nd cd, .int .i64 (fr : Int), .int .i64 0, .slice O no co] w _
  go_enter Try.func86, Try.ntmps86
  go_wp2_with fail
  rw [← hw1]
  clear hw1
  replace hol := Lib.hid hol
  go_loopw [13] (fun i wr => ∃ k : Nat, i = .int .i64 (k : Int) ∧ k ≤ no ∧ holdsOne (L.take k) loss = false ∧ wr = w1) (fun i wr => no - (intOf i).toNat)
  case atStart => exact ⟨0, rfl, Nat.zero_le _, rfl, rfl⟩
  case round =>
    obtain ⟨k, rfl, hk, hno', hwr⟩ := hrel
    rw [hwr]
    clear hwr wr
    by_cases hlt : k < no
    · have hk0 : (0 : Int) ≤ (k : Int) := by omega
      have hk1 : (k : Int) < (no : Int) := by omega
      obtain ⟨x, hx⟩ := some_of_lt hol.out hlt
      obtain ⟨bq, oq, A, m, d, hA, -, x0, hX⟩ := (hO1.lls (by omega)).at2 hx
      have hW := Rwithin_any A (some ⟨gd, 0, none⟩) m d nd cd B0 0 x loss w1 hX hD1
      replace hA := Lib.hid hA
      have hAA := hA.out
      subst hAA
      cases hc : hasAll x loss with
      | true =>
        have hy := holds_yes hx hc
        rw [hc] at hW
        replace hx := Lib.hid hx
        have hsr2 := hsr.out
        rw [hy, if_pos rfl] at hsr2
        replace hsr2 := Lib.hid hsr2
        clear hy hc
        replace hno' := Lib.hid hno'
        go_wp2_with fail
        ((with_reducible refine hW.mono ?_); rintro e w' ⟨rfl, rfl⟩)
        clear hW
        go_wp2_with fail
        go_ret
        exact ⟨_, no, co, rfl, by rw [hsr2.out]; exact hO1, RwFr.of_below b, fun q e => .inl e, by omega⟩
      | false =>
        have hn2 := Lib.hid (holds_no hno' hx hc)
        rw [hc] at hW
        replace hx := Lib.hid hx
        clear hc
        replace hno' := Lib.hid hno'
        go_wp2_with fail
        ((with_reducible refine hW.mono ?_); rintro e w' ⟨rfl, rfl⟩)
        clear hW
        go_wp2_with fail
        go_roundw
        case rel => exact ⟨k + 1, by go_num, by omega, hn2.out, by first | rfl | trivial⟩
        case measure => simp [intOf]; omega
    · obtain rfl : k = no := by omega
      rw [List.take_of_length_le (by rw [hol.out]; exact Nat.le_refl _)] at hno'
      have hsr2 := hsr.out
      rw [hno', if_neg (by simp)] at hsr2
      replace hsr2 := Lib.hid hsr2
      replace hno' := Lib.hid hno'
      obtain ⟨c3, f3, l3⟩ := k3.rules
      go_wp2_with fail
      refine (hhu _ hS1 hG1 hD1).mono ?_
      rintro e W4 ⟨rfl, hb⟩
      clear hhu c3 f3 l3 hS1 hG1 hD1
      replace hO1 := hO1.below hb
      replace hD0 := hD0.below hb
      have b4 := b.trans (hb.mono b.size)
      clear hb k3
      obtain ⟨ms, hms⟩ : ∃ ms, misS a (onL a) loss = ms := ⟨_, rfl⟩
      rw [hms] at hsr2
      rw [hms]
      replace hms := Lib.hid hms
      have hsz4 := b4.size
      by_cases hlt9 : limit < ms
      · have hsr3 := hsr2.out
        rw [if_pos hlt9] at hsr3
        replace hsr3 := Lib.hid hsr3
        obtain ⟨hlen, vs, hown, hel⟩ := hO1
        obtain ⟨i0, hi0, hz0, hz1, hz2⟩ := info_parts Try.infoSl
        have hownA := hown.alloc (.cells #[.slice (some ⟨gd, 0, none⟩) nd cd] 22)
        have hnews : ∀ (j : Nat) (u : Value), ([.slice (some ⟨gd, 0, none⟩) nd cd] : List Value)[j]? = some u → (W4.alloc (.cells #[.slice (some ⟨gd, 0, none⟩) nd cd] 22)).cell? ((⟨W4.heap.size, 0, none⟩ : Addr).add j) = some u :=
          World.news_of_block (cs := #[.slice (some ⟨gd, 0, none⟩) nd cd]) (World.alloc_heap_new W4 _)
        have hbig1 : Hid (k + 1 ≤ maxLen) := by show _ ≤ maxLen; unfold maxLen; omega
        have hbig2 : Hid ((k + 1) * 24 ≤ 140737488355328) := by show (k + 1) * 24 ≤ 140737488355328; omega
        have hbase : B0 ≤ (W4.alloc (.cells #[.slice (some ⟨gd, 0, none⟩) nd cd] 22)).heap.size := by simp; omega
        have helh := Lib.hid hel
        have hlenh := Lib.hid hlen
        clear hel hlen
        go_wp2_with (at_builtin; refine wpList_append_lies _ rfl (.tmp 34) (.tmp 36) 32 rfl B0 22 i0 (.slice none 0 0) 1 24 Try.underlying32 hi0 hz0 hz1 hz2 rfl (by decide) (.slice O k co) k vs rfl hownA ⟨W4.heap.size, 0, none⟩ 1 1 [.slice (some ⟨gd, 0, none⟩) nd cd] rfl rfl hnews (by simp [Value.oneCell']) (by decide) hbig1.out hbig2.out hbase (W4.heap.size + 1) (by simp) ?_; intro g10 cap2 w7 hown7 hgrow hlies hlt7)
        go_ret
        have hg10 := hown7.lt g10 rfl
        have hkz : ∀ q, q < W4.heap.size → (Value.slice O k co).ownBlock ≠ some q → w7.heap[q]? = W4.heap[q]? := fun q hq hqr =>
          (hgrow.block q (by simp; omega) (fun e => hqr e.symm)).trans (Below.heap_alloc W4 _ q (by omega))
        have hszz : W4.heap.size ≤ w7.heap.size := by
          have := hgrow.size
          simp at this ⊢
          omega
        have hfr : RwFr (Value.slice O k co).ownBlock W4 w7 := by
          have b1 := (Below.refl W4.heap.size W4).alloc (Nat.le_refl _) (.cells #[.slice (some ⟨gd, 0, none⟩) nd cd] 22)
          exact ⟨by rw [hgrow.os]; exact b1.os, hgrow.tape.trans b1.tape, by rw [hgrow.output]; exact b1.output, hszz, hkz⟩
        refine ⟨some ⟨g10, 0, none⟩, k + 1, cap2, rfl, ?_, (RwFr.of_below b4).trans hfr (fun q e => .inl e), ?_, by omega⟩
        · rw [hsr3.out]
          have hel := helh.out
          have hlen := hlenh.out
          refine ⟨by rw [List.length_append, hlen]; rfl, vs ++ [.slice (some ⟨gd, 0, none⟩) nd cd], hown7, fun i v l hv hl => ?_⟩
          have hvl : vs.length = k := by have := hown.1; omega
          by_cases hi : i < k
          · rw [List.getElem?_append_left (by omega)] at hv hl
            obtain ⟨q, m, d, rfl, e1, e2, e3⟩ := hel i v l hv hl
            have hqb := e1.blk e2 q 0 rfl
            refine ⟨q, m, d, rfl, e1.keepB hszz (fun b' o e => ?_), e2, fun e => ?_⟩
            · simp only [Option.some.injEq, Addr.mk.injEq, and_true] at e
              obtain ⟨rfl, rfl⟩ := e
              exact hkz q hqb.2 e3
            · simp only [Value.ownBlock, Option.some.injEq] at e
              rcases hlies with h | h
              · exact e3 (by rw [h, e])
              · omega
          · have hin : i = k := by
              have := (List.getElem?_eq_some_iff.1 hv).1
              rw [List.length_append] at this
              simp at this; omega
            subst hin
            rw [List.getElem?_append_right (by omega), hvl, Nat.sub_self] at hv
            rw [List.getElem?_append_right (by omega), hlen, Nat.sub_self] at hl
            simp only [List.getElem?_cons_zero, Option.some.injEq] at hv hl
            subst hv; subst hl
            refine ⟨gd, nd, cd, rfl, hD0.keepB hszz (fun b' o e => ?_), by omega, fun e => ?_⟩
            · simp only [Option.some.injEq, Addr.mk.injEq, and_true] at e
              obtain ⟨rfl, rfl⟩ := e
              exact hkz gd (by omega) hDr2
            · simp only [Value.ownBlock, Option.some.injEq] at e
              rcases hlies with h | h
              · exact hDr2 (by rw [h, e])
              · omega
        · intro q e
          simp only [Value.ownBlock, Option.some.injEq] at e
          subst e
          rcases hlies with h | h
          · exact .inl h
          · exact .inr (by omega)
      · have hsr3 := hsr2.out
        rw [if_neg hlt9] at hsr3
        replace hsr3 := Lib.hid hsr3
        have hge : ms ≤ limit := by omega
        go_wp2_with fail
        go_ret
        exact ⟨_, k, co, rfl, by rw [hsr3.out]; exact hO1, RwFr.of_below b4, fun q e => .inl e, by omega⟩
set_option maxRecDepth 100000 in
set_option maxHeartbeats 4000000 in
theorem losses_succ (a : Arr) (ha : okArr a = true) (limit : Int) (S G : Option Addr) (ns cs ng cg B0 : Nat) (hlS : lowB B0 S) (hlG : lowB B0 G) (m : Nat) (hm : LsFor a limit S G ns cs ng cg B0 m) : LsFor a limit S G ns cs ng cg B0 (m + 1) := by
  intro loss D nd cd fr L O no co w hS hG hO hD hDr hDz h1 h8 hfr hB hno
  have hgn := Lib.hid hG.len
  have hal := okArr_len ha
  unfold arrLen at hal
  rw [hgn.out] at hal
  obtain ⟨-, -, ha3, ha4⟩ := hal
  unfold LsFor at hm
  have hcl := fun W h => OwnQ_any loss D nd cd 0 W (by omega) h
  have hll := Lib.hid hD.len
  have hp8 : 8 ^ (m + 1) = 8 * 8 ^ m := by rw [Nat.pow_succ, Nat.mul_comm]
  obtain ⟨p8, hp⟩ : ∃ p8, 8 ^ m = p8 := ⟨_, rfl⟩
  rw [hp] at hp8 hm
  rw [hp8] at hno
  obtain ⟨lf, hlf⟩ : ∃ lf : Int, ((m + 1 : Nat) : Int) = lf := ⟨_, rfl⟩
  have hlz : (lf == 0) = false := by rw [beq_eq_false_iff_ne]; omega
  have ul : IntKind.i64.wrap (lf - 1) = (m : Int) := by rw [IntWalk.i64_in _ (by omega)]; omega
  have hml : m ≤ 7 := by omega
  rw [hlf]
  replace hlf := Lib.hid hlf
  replace hp := Lib.hid hp
  obtain ⟨i0, hi0, hz0, hz1, hz2⟩ := info_parts Try.infoInt
  have hstart := srTo_start a limit m fr loss L
  have hrow0 := hO.row
  obtain ⟨w1, hw1⟩ : ∃ w1, w1 = w.alloc (.cells #[.slice S ns cs, .slice G ng cg] 25) := ⟨_, rfl⟩
  have k3 : Blk w1 w.heap.size 25 #[.slice S ns cs, .slice G ng cg] := by rw [hw1]; exact Blk.new _ _ _
  have b : Below w.heap.size w w1 := by rw [hw1]; exact (Below.refl _ _).alloc (Nat.le_refl _) _
  have hS1 : SlAt w1 0 1 ivs S ns cs a.sh := by rw [hw1]; exact hS.alloc _
  have hG1 : SlAt w1 0 4 Gun.cells G ng cg a.gs := by rw [hw1]; exact hG.alloc _
  have hD1 : SlAt w1 0 1 ivs D nd cd loss := by rw [hw1]; exact hD.alloc _
  have hO1 : LsOut w1 B0 O no co L := hO.below b
  have hsz1 : w1.heap.size = w.heap.size + 1 := by rw [hw1]; simp
  have hsz1a : w.heap.size < w1.heap.size := by omega
  clear hS hG hO hD hsz1 hDz
  go_enter Try.func86, Try.ntmps86
  go_wp2_with fail
  rw [← hw1]
  clear hw1
  go_loopw [5, 14] (fun o i wr => ∃ (k : Nat) (L' : List (List Int)) (O' : Option Addr) (no' co' : Nat), i = .int .i64 (k : Int) ∧ o = .slice O' no' co' ∧ fr ≤ k ∧ (k = fr ∨ k ≤ ng) ∧ LsOut wr B0 O' no' co' L' ∧ RwFr (Value.slice O no co).ownBlock w1 wr ∧ (∀ q, (Value.slice O' no' co').ownBlock = some q → (Value.slice O no co).ownBlock = some q ∨ w1.heap.size ≤ q) ∧ no' ≤ no + (k - fr) * p8 ∧ srTo a limit m fr loss L k = L') (fun o i wr => ng - (intOf i).toNat)
  case atStart => exact ⟨fr, L, O, no, co, rfl, rfl, Nat.le_refl _, .inl rfl, hO1, RwFr.refl _ _, fun q e => .inl e, by omega, hstart⟩
  case round =>
    clear hstart
    obtain ⟨k, L', O', no', co', rfl, rfl, hfk, hkn, hO2, hfr2, hrw2, hno2, hLk⟩ := hrel
    have hsz2 := hfr2.2.2.2.1
    have k3r := hfr2.blk k3 (fun e => by have := hrow0 _ e; omega)
    obtain ⟨c1, f1, l1⟩ := k3r.rules
    by_cases hlt : k < ng
    · have hk0 : (0 : Int) ≤ (k : Int) := by omega
      have hk1 : (k : Int) < (ng : Int) := by omega
      have uk := IntWalk.i64_in ((k : Int) + 1) (by omega)
      have hDd := hfr2.sl hD1 hDr
      have hSd := hfr2.sl hS1 (fun _ q o e h => by have := hlS q o e; have := hrow0 _ h; omega)
      have hGd := hfr2.sl hG1 (fun _ q o e h => by have := hlG q o e; have := hrow0 _ h; omega)
      have hkp : (k - fr) * p8 + p8 ≤ 8 * p8 := by
        have := Nat.mul_le_mul_right p8 (show k - fr + 1 ≤ 8 by omega)
        rw [Nat.add_mul, Nat.one_mul] at this
        exact this
      have hrow9 := hO2.row
      have hbig1 := Lib.hid (show nd + 1 ≤ maxLen by unfold maxLen; omega)
      have hbig2 := Lib.hid (show (nd + 1) * 8 ≤ 140737488355328 by omega)
      have hstep := Lib.hid (srTo_succ a limit m loss L hfk)
      rw [hLk] at hstep
      replace hLk := Lib.hid hLk
      go_wp2_with fail
      clear c1 f1 l1
      refine wp_held_np (fun w' : World => (∀ j, w'.cell? ⟨w.heap.size, j, none⟩ = #[Value.slice S ns cs, .slice G ng cg][j]?) ∧ True) (by kernel_rfl) ?_
      have hSx : (fun w' : World => (∀ j, w'.cell? ⟨w.heap.size, j, none⟩ = #[Value.slice S ns cs, .slice G ng cg][j]?) ∧ True) wr.drew := ⟨k3r.drew.cell, trivial⟩
      have hbd : Below wr.heap.size wr wr.drew := (Below.refl _ _).drew
      have k3d := k3r.below hbd
      have hOd := hO2.below hbd
      replace hDd := hDd.below hbd
      replace hSd := hSd.below hbd
      replace hGd := hGd.below hbd
      have hfrd := hfr2.trans (RwFr.of_below (row := none) hbd) (fun q e => by cases e)
      have hszd : wr.heap.size ≤ wr.drew.heap.size := hbd.size
      clear hbd hO2 hfr2 k3r
      generalize hWd : wr.drew = Wd at *
      have hbz : Below Wd.heap.size Wd Wd := Below.refl _ _
      refine held_take (i := 0) (v := ?_) 47 rfl rfl (by kernel_rfl) (by kernel_rfl) (by kernel_rfl) (fun _ _ _ h => h) (Or.inl ⟨by rfl, ?_⟩) hSx ?_
      rotate_left 1
      · intro w' hSw
        try dsimp only at hSw
        obtain ⟨q1, q2⟩ := hSw
        go_simp
        all_goals with_reducible rfl
      try simp only [Act.put, List.setIfInBounds_toArray, List.set_cons_zero, List.set_cons_succ]
      refine held_take (i := 1) (v := ?_) 48 rfl rfl (by kernel_rfl) (by kernel_rfl) (by kernel_rfl) (fun _ _ _ h => h) (Or.inl ⟨by rfl, ?_⟩) hSx ?_
      rotate_left 1
      · intro w' hSw
        try dsimp only at hSw
        obtain ⟨q1, q2⟩ := hSw
        go_simp
        all_goals with_reducible rfl
      try simp only [Act.put, List.setIfInBounds_toArray, List.set_cons_zero, List.set_cons_succ]
      refine held_take (i := 2) (v := ?_) 49 rfl rfl (by kernel_rfl) (by kernel_rfl) (by kernel_rfl) (fun _ _ _ h => h) (Or.inl ⟨by rfl, ?_⟩) hSx ?_
      rotate_left 1
      · intro w' hSw
        try dsimp only at hSw
        obtain ⟨q1, q2⟩ := hSw
        go_simp
        all_goals with_reducible rfl
      try simp only [Act.put, List.setIfInBounds_toArray, List.set_cons_zero, List.set_cons_succ]
      refine held_take (i := 4) (v := ?_) 51 rfl rfl (by kernel_rfl) (by kernel_rfl) (by kernel_rfl) (fun _ _ _ h => h) (Or.inl ⟨by rfl, ?_⟩) hSx ?_
      rotate_left 1
      · intro w' hSw
        try dsimp only at hSw
        obtain ⟨q1, q2⟩ := hSw
        go_simp
        all_goals with_reducible rfl
      try simp only [Act.put, List.setIfInBounds_toArray, List.set_cons_zero, List.set_cons_succ]
      refine held_take (i := 7) (v := ?_) 54 rfl rfl (by kernel_rfl) (by kernel_rfl) (by kernel_rfl) (fun _ _ _ h => h) (Or.inl ⟨by rfl, ?_⟩) hSx ?_
      rotate_left 1
      · intro w' hSw
        try dsimp only at hSw
        obtain ⟨q1, q2⟩ := hSw
        go_simp
        all_goals with_reducible rfl
      try simp only [Act.put, List.setIfInBounds_toArray, List.set_cons_zero, List.set_cons_succ]
      refine held_take (i := 8) (v := ?_) 55 rfl rfl (by kernel_rfl) (by kernel_rfl) (by kernel_rfl) (fun _ _ _ h => h) (Or.inl ⟨by rfl, ?_⟩) hSx ?_
      rotate_left 1
      · intro w' hSw
        try dsimp only at hSw
        obtain ⟨q1, q2⟩ := hSw
        go_simp
        all_goals with_reducible rfl
      try simp only [Act.put, List.setIfInBounds_toArray, List.set_cons_zero, List.set_cons_succ]
      refine held_take (i := 9) (v := ?_) 56 rfl rfl (by kernel_rfl) (by kernel_rfl) (by kernel_rfl) (fun _ _ _ h => h) (Or.inl ⟨by rfl, ?_⟩) hSx ?_
      rotate_left 1
      · intro w' hSw
        try dsimp only at hSw
        obtain ⟨q1, q2⟩ := hSw
        go_simp
        all_goals with_reducible rfl
      try simp only [Act.put, List.setIfInBounds_toArray, List.set_cons_zero, List.set_cons_succ]
      refine held_take (i := 10) (v := ?_) 57 rfl rfl (by kernel_rfl) (by kernel_rfl) (by kernel_rfl) (fun _ _ _ h => h) (Or.inl ⟨by rfl, ?_⟩) hSx ?_
      rotate_left 1
      · intro w' hSw
        try dsimp only at hSw
        obtain ⟨q1, q2⟩ := hSw
        go_simp
        all_goals with_reducible rfl
      try simp only [Act.put, List.setIfInBounds_toArray, List.set_cons_zero, List.set_cons_succ]
      refine held_take (i := 11) (v := ?_) 58 rfl rfl (by kernel_rfl) (by kernel_rfl) (by kernel_rfl) (fun _ _ _ h => h) (Or.inl ⟨by rfl, ?_⟩) hSx ?_
      rotate_left 1
      · intro w' hSw
        try dsimp only at hSw
        obtain ⟨q1, q2⟩ := hSw
        go_simp
        all_goals with_reducible rfl
      try simp only [Act.put, List.setIfInBounds_toArray, List.set_cons_zero, List.set_cons_succ]
      refine held_two (i := 3) (j := 5) (by kernel_rfl) rfl rfl rfl rfl (fun K hK => ?_) (fun K hK => ?_)
      · skip
        go_simp
        refine (hcl _ (hDd.below hbz)).mono ?_
        rintro e X1 ⟨v, rfl, hownc, hb6⟩
        replace hownc := ownsRow_base hownc hbz.size
        try replace kB := kB.below hb6
        replace hbz := hbz.trans (hb6.mono hbz.size)
        clear hb6 hSx
        have hSx : (fun w' : World => (∀ j, w'.cell? ⟨w.heap.size, j, none⟩ = #[Value.slice S ns cs, .slice G ng cg][j]?) ∧ True) X1 := ⟨(k3d.below hbz).cell, trivial⟩
        refine hK _ _ hSx ?_
        clear hK K
        try simp only [Act.put, List.setIfInBounds_toArray, List.set_cons_zero, List.set_cons_succ]
        refine held_one (i := 5) (by kernel_rfl) rfl rfl (fun K hK => ?_)
        go_simp
        have kB := Blk.new X1 3 #[.int .i64 (k : Int)]
        try replace hownc := ownsRow_below hownc ((Below.refl _ X1).alloc (Nat.le_refl _) (.cells #[.int .i64 (k : Int)] 3))
        replace hbz := hbz.alloc hbz.size (.cells #[.int .i64 (k : Int)] 3)
        clear hSx
        have hSx : (fun w' : World => (∀ j, w'.cell? ⟨w.heap.size, j, none⟩ = #[Value.slice S ns cs, .slice G ng cg][j]?) ∧ True) (X1.alloc (.cells #[.int .i64 (k : Int)] 3)) := ⟨(k3d.below hbz).cell, trivial⟩
        refine hK _ _ hSx ?_
        clear hK K
        try simp only [Act.put, List.setIfInBounds_toArray, List.set_cons_zero, List.set_cons_succ]
        generalize X1.alloc (.cells #[.int .i64 (k : Int)] 3) = X2 at *
        obtain ⟨gB, hgB⟩ : ∃ gB, X1.heap.size = gB := ⟨_, rfl⟩
        rw [hgB] at kB ⊢
        clear hgB
        refine held_one (i := 6) (by kernel_rfl) rfl rfl (fun K hK => ?_)
        have hnews : ∀ (j : Nat) (u : Value), ([.int .i64 (k : Int)] : List Value)[j]? = some u → X2.cell? ((⟨gB, 0, none⟩ : Addr).add j) = some u := World.news_of_block (cs := #[.int .i64 (k : Int)]) kB
        have hbase := hbz.size
        refine wp_append_lies _ _ _ 22 (by rfl) Wd.heap.size 3 i0 (.int .i64 0) 1 8 Try.underlying22 hi0 hz0 hz1 hz2 rfl (by omega) v nd (loss.map (.int .i64 ·)) (by rfl) hownc ⟨gB, 0, none⟩ 1 1 [.int .i64 (k : Int)] (by rfl) rfl hnews (by simp [Value.oneCell']) (by omega) hbig1.out hbig2.out hbase X2.heap.size rfl ?_
        intro g11 cap2 X3 hown7 hgrow hlies hlt7
        have hbz7 : Below Wd.heap.size Wd X3 := hbz.grown hgrow hbase (fun q e => (hownc.lt q e).1)
        have hg11 := hown7.lt g11 rfl
        have hSn := SlAt.ownQ (enc := ivs) hown7 (by omega) (loss ++ [(k : Int)]) (by rw [flatMap_ivs, List.map_append]; rfl) (fun _ => rfl) (by rw [List.length_append, hll.out]; rfl)
        clear hSx hbz kB hownc hnews hown7 hgrow hlies hbase
        have hSx : (fun w' : World => (∀ j, w'.cell? ⟨w.heap.size, j, none⟩ = #[Value.slice S ns cs, .slice G ng cg][j]?) ∧ True) X3 := ⟨(k3d.below hbz7).cell, trivial⟩
        refine hK _ _ hSx ?_
        clear hK K
        try simp only [Act.put, List.setIfInBounds_toArray, List.set_cons_zero, List.set_cons_succ]
        refine held_one (i := 12) (by kernel_rfl) rfl rfl (fun K hK => ?_)
        go_simp
        have hsz7 := hbz7.size
        have hih := hm (loss ++ [(k : Int)]) (some ⟨g11, 0, none⟩) (nd + 1) cap2 (k + 1) L' O' no' co' X3 (hSd.below hbz7) (hGd.below hbz7) (hOd.below hbz7) (hSn.mono (Nat.zero_le _)) (fun _ q o e => by
          simp only [Option.some.injEq, Addr.mk.injEq, and_true] at e
          obtain ⟨rfl, rfl⟩ := e
          exact fun e => by have := hrow9 _ e; omega) (fun _ => ⟨g11, rfl, hSn.mono (by omega)⟩) (by omega) (by omega) (by omega) (by omega) (by omega)
        rw [show ((k + 1 : Nat) : Int) = (k : Int) + 1 from by omega] at hih
        refine hih.mono ?_
        rintro e X4 ⟨O3, no3, co3, rfl, hO3, hfr3, hrw3, hno3⟩
        clear hih hSx
        have hSx : (fun w' : World => (∀ j, w'.cell? ⟨w.heap.size, j, none⟩ = #[Value.slice S ns cs, .slice G ng cg][j]?) ∧ True) X4 := ⟨(hfr3.blk (k3d.below hbz7) (fun e => (hrw2 _ e).elim (fun h => by have := hrow0 _ h; omega) (fun h => by omega))).cell, trivial⟩
        refine hK _ _ hSx ?_
        clear hK K
        try simp only [Act.put, List.setIfInBounds_toArray, List.set_cons_zero, List.set_cons_succ]
        refine held_take (i := 13) (v := ?_) 5 rfl rfl (by kernel_rfl) (by kernel_rfl) (by kernel_rfl) (fun _ _ _ h => h) (Or.inl ⟨by rfl, ?_⟩) hSx ?_
        rotate_left 1
        · intro w' hSw
          try dsimp only at hSw
          obtain ⟨q1, q2⟩ := hSw
          go_simp
          all_goals with_reducible rfl
        try simp only [Act.put, List.setIfInBounds_toArray, List.set_cons_zero, List.set_cons_succ]
        refine wpAnyH_done (by kernel_rfl) (noPanic_normal ?_) _
        clear hSx
        have hfrA := (hfrd.trans (RwFr.of_below (row := none) hbz7) (fun q e => by cases e)).trans hfr3 hrw2
        have hrwA : ∀ q, (Value.slice O3 no3 co3).ownBlock = some q → (Value.slice O no co).ownBlock = some q ∨ w1.heap.size ≤ q := fun q e => by
          rcases hrw3 q e with h | h
          · exact hrw2 q h
          · exact .inr (by omega)
        have hnoA : no3 ≤ no + (k + 1 - fr) * p8 := by
          rw [show k + 1 - fr = (k - fr) + 1 by omega, Nat.add_mul, Nat.one_mul]
          omega
        clear hfrd hSd hGd hOd hDd hfr3 hrw3 k3d hbz7 hSn
        go_wp2_with fail
        go_roundw
        case rel => exact ⟨k + 1, _, O3, no3, co3, by go_num, rfl, by omega, .inr (by omega), hO3, hfrA, hrwA, hnoA, hstep.out⟩
        case measure => simp [intOf]; omega
      · skip
        go_simp
        have kB := Blk.new Wd 3 #[.int .i64 (k : Int)]
        try replace hownc := ownsRow_below hownc ((Below.refl _ Wd).alloc (Nat.le_refl _) (.cells #[.int .i64 (k : Int)] 3))
        replace hbz := hbz.alloc hbz.size (.cells #[.int .i64 (k : Int)] 3)
        clear hSx
        have hSx : (fun w' : World => (∀ j, w'.cell? ⟨w.heap.size, j, none⟩ = #[Value.slice S ns cs, .slice G ng cg][j]?) ∧ True) (Wd.alloc (.cells #[.int .i64 (k : Int)] 3)) := ⟨(k3d.below hbz).cell, trivial⟩
        refine hK _ _ hSx ?_
        clear hK K
        try simp only [Act.put, List.setIfInBounds_toArray, List.set_cons_zero, List.set_cons_succ]
        generalize Wd.alloc (.cells #[.int .i64 (k : Int)] 3) = X5 at *
        obtain ⟨gB, hgB⟩ : ∃ gB, Wd.heap.size = gB := ⟨_, rfl⟩
        rw [hgB] at kB ⊢
        clear hgB
        refine held_one (i := 3) (by kernel_rfl) rfl rfl (fun K hK => ?_)
        go_simp
        refine (hcl _ (hDd.below hbz)).mono ?_
        rintro e X6 ⟨v, rfl, hownc, hb6⟩
        replace hownc := ownsRow_base hownc hbz.size
        try replace kB := kB.below hb6
        replace hbz := hbz.trans (hb6.mono hbz.size)
        clear hb6 hSx
        have hSx : (fun w' : World => (∀ j, w'.cell? ⟨w.heap.size, j, none⟩ = #[Value.slice S ns cs, .slice G ng cg][j]?) ∧ True) X6 := ⟨(k3d.below hbz).cell, trivial⟩
        refine hK _ _ hSx ?_
        clear hK K
        try simp only [Act.put, List.setIfInBounds_toArray, List.set_cons_zero, List.set_cons_succ]
        refine held_one (i := 6) (by kernel_rfl) rfl rfl (fun K hK => ?_)
        have hnews : ∀ (j : Nat) (u : Value), ([.int .i64 (k : Int)] : List Value)[j]? = some u → X6.cell? ((⟨gB, 0, none⟩ : Addr).add j) = some u := World.news_of_block (cs := #[.int .i64 (k : Int)]) kB
        have hbase := hbz.size
        refine wp_append_lies _ _ _ 22 (by rfl) Wd.heap.size 3 i0 (.int .i64 0) 1 8 Try.underlying22 hi0 hz0 hz1 hz2 rfl (by omega) v nd (loss.map (.int .i64 ·)) (by rfl) hownc ⟨gB, 0, none⟩ 1 1 [.int .i64 (k : Int)] (by rfl) rfl hnews (by simp [Value.oneCell']) (by omega) hbig1.out hbig2.out hbase X6.heap.size rfl ?_
        intro g11 cap2 X7 hown7 hgrow hlies hlt7
        have hbz7 : Below Wd.heap.size Wd X7 := hbz.grown hgrow hbase (fun q e => (hownc.lt q e).1)
        have hg11 := hown7.lt g11 rfl
        have hSn := SlAt.ownQ (enc := ivs) hown7 (by omega) (loss ++ [(k : Int)]) (by rw [flatMap_ivs, List.map_append]; rfl) (fun _ => rfl) (by rw [List.length_append, hll.out]; rfl)
        clear hSx hbz kB hownc hnews hown7 hgrow hlies hbase
        have hSx : (fun w' : World => (∀ j, w'.cell? ⟨w.heap.size, j, none⟩ = #[Value.slice S ns cs, .slice G ng cg][j]?) ∧ True) X7 := ⟨(k3d.below hbz7).cell, trivial⟩
        refine hK _ _ hSx ?_
        clear hK K
        try simp only [Act.put, List.setIfInBounds_toArray, List.set_cons_zero, List.set_cons_succ]
        refine held_one (i := 12) (by kernel_rfl) rfl rfl (fun K hK => ?_)
        go_simp
        have hsz7 := hbz7.size
        have hih := hm (loss ++ [(k : Int)]) (some ⟨g11, 0, none⟩) (nd + 1) cap2 (k + 1) L' O' no' co' X7 (hSd.below hbz7) (hGd.below hbz7) (hOd.below hbz7) (hSn.mono (Nat.zero_le _)) (fun _ q o e => by
          simp only [Option.some.injEq, Addr.mk.injEq, and_true] at e
          obtain ⟨rfl, rfl⟩ := e
          exact fun e => by have := hrow9 _ e; omega) (fun _ => ⟨g11, rfl, hSn.mono (by omega)⟩) (by omega) (by omega) (by omega) (by omega) (by omega)
        rw [show ((k + 1 : Nat) : Int) = (k : Int) + 1 from by omega] at hih
        refine hih.mono ?_
        rintro e X8 ⟨O3, no3, co3, rfl, hO3, hfr3, hrw3, hno3⟩
        clear hih hSx
        have hSx : (fun w' : World => (∀ j, w'.cell? ⟨w.heap.size, j, none⟩ = #[Value.slice S ns cs, .slice G ng cg][j]?) ∧ True) X8 := ⟨(hfr3.blk (k3d.below hbz7) (fun e => (hrw2 _ e).elim (fun h => by have := hrow0 _ h; omega) (fun h => by omega))).cell, trivial⟩
        refine hK _ _ hSx ?_
        clear hK K
        try simp only [Act.put, List.setIfInBounds_toArray, List.set_cons_zero, List.set_cons_succ]
        refine held_take (i := 13) (v := ?_) 5 rfl rfl (by kernel_rfl) (by kernel_rfl) (by kernel_rfl) (fun _ _ _ h => h) (Or.inl ⟨by rfl, ?_⟩) hSx ?_
        rotate_left 1
        · intro w' hSw
          try dsimp only at hSw
          obtain ⟨q1, q2⟩ := hSw
          go_simp
          all_goals with_reducible rfl
        try simp only [Act.put, List.setIfInBounds_toArray, List.set_cons_zero, List.set_cons_succ]
        refine wpAnyH_done (by kernel_rfl) (noPanic_normal ?_) _
        clear hSx
        have hfrA := (hfrd.trans (RwFr.of_below (row := none) hbz7) (fun q e => by cases e)).trans hfr3 hrw2
        have hrwA : ∀ q, (Value.slice O3 no3 co3).ownBlock = some q → (Value.slice O no co).ownBlock = some q ∨ w1.heap.size ≤ q := fun q e => by
          rcases hrw3 q e with h | h
          · exact hrw2 q h
          · exact .inr (by omega)
        have hnoA : no3 ≤ no + (k + 1 - fr) * p8 := by
          rw [show k + 1 - fr = (k - fr) + 1 by omega, Nat.add_mul, Nat.one_mul]
          omega
        clear hfrd hSd hGd hOd hDd hfr3 hrw3 k3d hbz7 hSn
        go_wp2_with fail
        go_roundw
        case rel => exact ⟨k + 1, _, O3, no3, co3, by go_num, rfl, by omega, .inr (by omega), hO3, hfrA, hrwA, hnoA, hstep.out⟩
        case measure => simp [intOf]; omega
    · have hk1 : ¬ (k : Int) < (ng : Int) := by omega
      have hend := srTo_end a limit m fr loss L hfk (by rw [hgn.out]; omega) (by rw [hgn.out]; omega)
      rw [hLk] at hend
      have hkf : (k - fr) * p8 ≤ 8 * p8 := Nat.mul_le_mul_right p8 (by omega)
      have hb1s := b.size
      replace hend := Lib.hid hend
      replace hLk := Lib.hid hLk
      go_wp2_with fail
      go_ret
      exact ⟨O', no', co', rfl, by rw [← hend.out]; exact hO2, (RwFr.of_below b).trans hfr2 (fun q e => .inl e), fun q e => (hrw2 q e).imp id (fun h => by omega), by omega⟩
theorem losses_all (a : Arr) (ha : okArr a = true) (limit : Int) (S G : Option Addr) (ns cs ng cg B0 : Nat) (hlS : lowB B0 S) (hlG : lowB B0 G) : ∀ m, LsFor a limit S G ns cs ng cg B0 m
  | 0 => losses_zero a ha limit S G ns cs ng cg B0 hlS hlG
  | m + 1 => losses_succ a ha limit S G ns cs ng cg B0 hlS hlG m (losses_all a ha limit S G ns cs ng cg B0 hlS hlG m)
end Go.Proofs.Ytfengddpfeneiaa
