/-
  Rows of streamers and of bounds; walks: spread of package tow.
-/
import Derived.Test.YthjdjpcomocffaaGreatG13
import Derived.Test.YthjdjpcomocffaaGreatOrd
import Derived.Test.YthjdjpcomocffaaGreatW14
namespace Go.Proofs.YthjdjpcomocffaaGreat
open Go.RowKit Go.Shelf
set_option linter.unusedSimpArgs false
set_option linter.unusedVariables false

/-- A streamer, with where its sections lie. -/
structure StD where
  s : Strm
  A : Option Addr
  n : Nat
  c : Nat
def StD.cells (d : StD) : List Value := [.int .i64 d.s.head, .slice d.A d.n d.c, .int .i64 d.s.lane.lo, .int .i64 d.s.lane.hi, .int .i64 d.s.bend]
/-- Bounds, with where they lie. -/
structure BdD where
  bs : List Bnd
  O : Option Addr
  n : Nat
  c : Nat
def BdD.cells (d : BdD) : List Value := [.slice d.O d.n d.c]
structure TlD where
  t : StD
  b : BdD
def TlD.cells (d : TlD) : List Value := [.int .i64 d.t.s.head, .slice d.t.A d.t.n d.t.c, .int .i64 d.t.s.lane.lo, .int .i64 d.t.s.lane.hi, .int .i64 d.t.s.bend, .slice d.b.O d.b.n d.b.c]
def StOk (w : World) (d : StD) : Prop := SlAt w 0 5 Sec.cells d.A d.n d.c d.s.secs
def BdOk (w : World) (d : BdD) : Prop := SlAt w 0 2 Bnd.cells d.O d.n d.c d.bs
def SpL (w : World) (L : Option Addr) (n c : Nat) (ds : List StD) : Prop := SlAt w 0 5 StD.cells L n c ds ∧ ∀ d ∈ ds, StOk w d
def BpL (w : World) (L : Option Addr) (n c : Nat) (es : List BdD) : Prop := SlAt w 0 1 BdD.cells L n c es ∧ ∀ e ∈ es, BdOk w e
theorem SpL.below {w w' : World} {L : Option Addr} {n c : Nat} {ds : List StD} (h : SpL w L n c ds) (hb : Below w.heap.size w w') : SpL w' L n c ds := ⟨h.1.below hb, fun d hd => SlAt.below (h.2 d hd) hb⟩
theorem BpL.below {w w' : World} {L : Option Addr} {n c : Nat} {ds : List BdD} (h : BpL w L n c ds) (hb : Below w.heap.size w w') : BpL w' L n c ds := ⟨h.1.below hb, fun d hd => SlAt.below (h.2 d hd) hb⟩
theorem SlAt.std {w : World} {B n c k : Nat} {A : Option Addr} {xs : List StD} {d : StD} (h : SlAt w B 5 StD.cells A n c xs) (hk : xs[k]? = some d) :
    ∃ b off, A = some ⟨b, off, none⟩ ∧ B ≤ b ∧ b < w.heap.size ∧ w.cell? ⟨b, off + k * 5, none⟩ = some (.int .i64 d.s.head) ∧ w.cell? ⟨b, off + k * 5 + 1, none⟩ = some (.slice d.A d.n d.c)
      ∧ w.cell? ⟨b, off + k * 5 + 2, none⟩ = some (.int .i64 d.s.lane.lo) ∧ w.cell? ⟨b, off + k * 5 + 3, none⟩ = some (.int .i64 d.s.lane.hi) ∧ w.cell? ⟨b, off + k * 5 + 4, none⟩ = some (.int .i64 d.s.bend) := by
  obtain ⟨b, off, hA, hB, hb, hc⟩ := h.at_ hk
  exact ⟨b, off, hA, hB, hb, hc 0 _ rfl, hc 1 _ rfl, hc 2 _ rfl, hc 3 _ rfl, hc 4 _ rfl⟩
theorem SlAt.bdd {w : World} {B n c k : Nat} {A : Option Addr} {xs : List BdD} {d : BdD} (h : SlAt w B 1 BdD.cells A n c xs) (hk : xs[k]? = some d) :
    ∃ b off, A = some ⟨b, off, none⟩ ∧ B ≤ b ∧ b < w.heap.size ∧ w.cell? ⟨b, off + k, none⟩ = some (.slice d.O d.n d.c) := by
  obtain ⟨b, off, hA, hB, hb, hc⟩ := h.at_ hk
  refine ⟨b, off, hA, hB, hb, ?_⟩
  have := hc 0 _ rfl
  simpa using this
theorem SlAt.tld {w : World} {B n c k : Nat} {A : Option Addr} {xs : List TlD} {d : TlD} (h : SlAt w B 6 TlD.cells A n c xs) (hk : xs[k]? = some d) :
    ∃ b off, A = some ⟨b, off, none⟩ ∧ B ≤ b ∧ b < w.heap.size ∧ w.cell? ⟨b, off + k * 6, none⟩ = some (.int .i64 d.t.s.head) ∧ w.cell? ⟨b, off + k * 6 + 1, none⟩ = some (.slice d.t.A d.t.n d.t.c)
      ∧ w.cell? ⟨b, off + k * 6 + 2, none⟩ = some (.int .i64 d.t.s.lane.lo) ∧ w.cell? ⟨b, off + k * 6 + 3, none⟩ = some (.int .i64 d.t.s.lane.hi) ∧ w.cell? ⟨b, off + k * 6 + 4, none⟩ = some (.int .i64 d.t.s.bend) ∧ w.cell? ⟨b, off + k * 6 + 5, none⟩ = some (.slice d.b.O d.b.n d.b.c) := by
  obtain ⟨b, off, hA, hB, hb, hc⟩ := h.at_ hk
  exact ⟨b, off, hA, hB, hb, hc 0 _ rfl, hc 1 _ rfl, hc 2 _ rfl, hc 3 _ rfl, hc 4 _ rfl, hc 5 _ rfl⟩
/-- What a spread is said to be. -/
def sprTo (ds : List StD) (es : List BdD) (k : Nat) : Bool := (List.range k).all fun i => match ds[i]?, es[i]? with | some d, some e => decide (errB d.s e.bs = 0) | _, _ => false
def sprOk (ds : List StD) (es : List BdD) : Bool := decide (1 ≤ ds.length ∧ ds.length ≤ 4 ∧ es.length = ds.length) && sprTo ds es ds.length
theorem sprTo_succ {ds : List StD} {es : List BdD} {k : Nat} {d : StD} {e : BdD} (hd : ds[k]? = some d) (he : es[k]? = some e) : sprTo ds es (k + 1) = (sprTo ds es k && decide (errB d.s e.bs = 0)) := by
  unfold sprTo
  rw [List.range_succ, List.all_append]
  simp [hd, he]
theorem sprTo_no {ds : List StD} {es : List BdD} {k : Nat} (h : sprTo ds es k = false) : ∀ n, k ≤ n → sprTo ds es n = false := by
  intro n hn
  obtain ⟨m, rfl⟩ : ∃ m, n = k + m := ⟨n - k, by omega⟩
  unfold sprTo at *
  rw [List.range_add, List.all_append, h, Bool.false_and]
theorem sprTo_at {ds : List StD} {es : List BdD} {k i : Nat} {d : StD} {e : BdD} (h : sprTo ds es k = true) (hi : i < k) (hd : ds[i]? = some d) (he : es[i]? = some e) : errB d.s e.bs = 0 := by
  unfold sprTo at h
  have := List.all_eq_true.1 h i (List.mem_range.2 hi)
  simp only [hd, he] at this
  exact of_decide_eq_true this
def zipT (ds : List StD) (es : List BdD) : List TlD := List.zipWith TlD.mk ds es
theorem zipT_take {ds : List StD} {es : List BdD} {k : Nat} {d : StD} {e : BdD} (hd : ds[k]? = some d) (he : es[k]? = some e) : (zipT ds es).take (k + 1) = (zipT ds es).take k ++ [⟨d, e⟩] := by
  unfold zipT
  rw [List.take_add_one]
  simp [List.getElem?_zipWith, hd, he]
theorem Tryz.infoTw : (Tryz.prog.info? 85).map (fun i => (i.zero, i.size, i.bytes)) = some (some (.agg #[.int .i64 0, .slice none 0 0, .int .i64 0, .int .i64 0, .int .i64 0, .slice none 0 0]), 6, 80) := by kernel_rfl
def RetSpr (ds : List StD) (es : List BdD) (w : World) (e : Ending) (w' : World) : Prop :=
  ∃ P n c, e = .returned (.tuple #[.slice P n c, .int .i64 (if sprOk ds es = true then 0 else 36)]) ∧ (sprOk ds es = true → n = ds.length ∧ SlAt w' w.heap.size 6 TlD.cells P n c (zipT ds es)) ∧ Below w.heap.size w w'
set_option maxRecDepth 100000 in
set_option maxHeartbeats 4000000 in
theorem spread_any (L M : Option Addr) (n c m cm : Nat) (ds : List StD) (es : List BdD) (w : World) (hL : SpL w L n c ds) (hM : BpL w M m cm es) :
    Calls Tryz.prog 48 #[.slice L n c, .slice M m cm] w (RetSpr ds es w) := by
  have hdl := Lib.hid hL.1.len
  have hel := Lib.hid hM.1.len
  have hw1 := fun W => within_any (n : Int) 1 4 W
  by_cases h1 : 1 ≤ n ∧ n ≤ 4
  · simp only [decide_eq_true (show 1 ≤ (n : Int) ∧ (n : Int) ≤ 4 by omega)] at hw1
    by_cases h2 : m = n
    · subst h2
      have hok : Hid (sprOk ds es = sprTo ds es m) := by
        show _ = _
        unfold sprOk
        rw [hdl.out, hel.out, decide_eq_true ⟨h1.1, h1.2, rfl⟩, Bool.true_and]
      go_enter Tryz.func48, Tryz.ntmps48
      go_wp2_with fail
      refine (hw1 _).mono ?_
      rintro e w' ⟨rfl, rfl⟩
      clear hw1
      go_wp2_with fail
      go_loopw [6, 24] (fun v i wr => ∃ k : Nat, i = .int .i64 k ∧ k ≤ m ∧ sprTo ds es k = true ∧ wr.ownsRow w.heap.size 85 6 v k (((zipT ds es).take k).flatMap TlD.cells) ∧ Below w.heap.size w wr) (fun v i wr => m - (intOf i).toNat)
      case atStart => exact ⟨0, rfl, Nat.zero_le _, rfl, ⟨rfl, .inl ⟨rfl, rfl⟩⟩, Below.refl _ _⟩
      case round =>
        obtain ⟨k, rfl, hk, hsp, hown, hb⟩ := hrel
        replace hsp := Lib.hid hsp
        by_cases hlt : k < m
        · have hk0 : (0 : Int) ≤ (k : Int) := by omega
          have hk1 : (k : Int) < (m : Int) := by omega
          obtain ⟨d, hd⟩ := some_of_lt hdl.out hlt
          obtain ⟨e, he⟩ := some_of_lt hel.out hlt
          have hst : StOk wr d := SlAt.below (hL.2 d (List.mem_of_getElem? hd)) hb
          have hbt : BdOk wr e := SlAt.below (hM.2 e (List.mem_of_getElem? he)) hb
          have hnx := Lib.hid (sprTo_succ hd he)
          have htk := Lib.hid (zipT_take hd he)
          obtain ⟨bL, oL, hA, -, hbL, z0, z1, z2, z3, z4⟩ := (hL.1.keep hb.size (fun _ _ h => hb.cell h)).std hd
          obtain ⟨bM, oM, hB, -, hbM0, y0⟩ := hM.1.bdd he
          replace y0 := (hb.cell (p := ⟨bM, oM + k, none⟩) hbM0).trans y0
          have hbM : bM < wr.heap.size := Nat.lt_of_lt_of_le hbM0 hb.size
          have hu6 : ∀ q, u6.ownBlock = some q → w.heap.size ≤ q ∧ q < wr.heap.size := fun q e => hown.lt q e
          subst hA
          subst hB
          replace hd := Lib.hid hd
          replace he := Lib.hid he
          have hck := fun W h1 h2 => checked_any d.s d.A e.O d.n d.c e.n e.c 0 0 e.bs W h1 h2
          go_wp2_with fail
          clear z0 z1 z2 z3 z4
          have k8 := Blk.new wr 26 #[.int .i64 d.s.head, .slice d.A d.n d.c, .int .i64 d.s.lane.lo, .int .i64 d.s.lane.hi, .int .i64 d.s.bend]
          have hs8 : wr.heap.size < (wr.alloc (.cells #[.int .i64 d.s.head, .slice d.A d.n d.c, .int .i64 d.s.lane.lo, .int .i64 d.s.lane.hi, .int .i64 d.s.bend] 26)).heap.size := by rw [World.size_alloc]; omega
          have hbel := (Below.refl wr.heap.size wr).alloc (Nat.le_refl _) (.cells #[.int .i64 d.s.head, .slice d.A d.n d.c, .int .i64 d.s.lane.lo, .int .i64 d.s.lane.hi, .int .i64 d.s.bend] 26)
          replace hst : StOk _ d := SlAt.below hst hbel
          replace hbt : BdOk _ e := SlAt.below hbt hbel
          replace y0 := (hbel.cell (p := ⟨bM, oM + k, none⟩) hbM).trans y0
          replace hbM := Nat.lt_of_lt_of_le hbM hbel.size
          have hown0 := hown
          replace hown := ownsRow_below hown hbel
          replace hb := hb.trans (hbel.mono hb.size)
          clear hbel
          generalize wr.alloc (.cells #[.int .i64 d.s.head, .slice d.A d.n d.c, .int .i64 d.s.lane.lo, .int .i64 d.s.lane.hi, .int .i64 d.s.bend] 26) = W at *
          generalize wr.heap.size = g8 at *
          refine wp_held_np (fun w' : World => (∀ j, w'.cell? ⟨g8, j, none⟩ = #[Value.int .i64 d.s.head, .slice d.A d.n d.c, .int .i64 d.s.lane.lo, .int .i64 d.s.lane.hi, .int .i64 d.s.bend][j]?) ∧ w'.cell? ⟨bM, oM + k, none⟩ = some (.slice e.O e.n e.c)) (by kernel_rfl) ?_
          have hSb : Hid (∀ W', Below W.heap.size W W' → (fun w' : World => (∀ j, w'.cell? ⟨g8, j, none⟩ = #[Value.int .i64 d.s.head, .slice d.A d.n d.c, .int .i64 d.s.lane.lo, .int .i64 d.s.lane.hi, .int .i64 d.s.bend][j]?) ∧ w'.cell? ⟨bM, oM + k, none⟩ = some (.slice e.O e.n e.c)) W') := by
            show ∀ _, _
            intro W' hb9
            exact ⟨(k8.below hb9).cell, (hb9.cell (p := ⟨bM, oM + k, none⟩) hbM).trans y0⟩
          have hb9 : Below W.heap.size W W.drew := (Below.refl _ _).drew
          have hS := hSb.out _ hb9
          generalize W.drew = wd at *
          by_cases her : errB d.s e.bs = 0
          · rw [decide_eq_true her, Bool.and_true] at hnx
            replace her := Lib.hid her
            refine held_take (i := 0) (v := ?_) 30 rfl rfl (by kernel_rfl) (by kernel_rfl) (by kernel_rfl) (fun _ _ _ h => h) (Or.inl ⟨by rfl, ?_⟩) hS ?_
            rotate_left 1
            · intro w' hSw
              try dsimp only at hSw
              obtain ⟨q0, q1⟩ := hSw
              go_simp
              all_goals with_reducible rfl
            try simp only [Act.put, List.setIfInBounds_toArray, List.set_cons_zero, List.set_cons_succ]
            refine held_take (i := 1) (v := ?_) 31 rfl rfl (by kernel_rfl) (by kernel_rfl) (by kernel_rfl) (fun _ _ _ h => h) (Or.inl ⟨by rfl, ?_⟩) hS ?_
            rotate_left 1
            · intro w' hSw
              try dsimp only at hSw
              obtain ⟨q0, q1⟩ := hSw
              go_simp
              all_goals with_reducible rfl
            try simp only [Act.put, List.setIfInBounds_toArray, List.set_cons_zero, List.set_cons_succ]
            refine held_take (i := 2) (v := ?_) 32 rfl rfl (by kernel_rfl) (by kernel_rfl) (by kernel_rfl) (fun _ _ _ h => h) (Or.inl ⟨by rfl, ?_⟩) hS ?_
            rotate_left 1
            · intro w' hSw
              try dsimp only at hSw
              obtain ⟨q0, q1⟩ := hSw
              go_simp
              all_goals with_reducible rfl
            try simp only [Act.put, List.setIfInBounds_toArray, List.set_cons_zero, List.set_cons_succ]
            refine held_take (i := 3) (v := ?_) 33 rfl rfl (by kernel_rfl) (by kernel_rfl) (by kernel_rfl) (fun _ _ _ h => h) (Or.inl ⟨by rfl, ?_⟩) hS ?_
            rotate_left 1
            · intro w' hSw
              try dsimp only at hSw
              obtain ⟨q0, q1⟩ := hSw
              go_simp
              all_goals with_reducible rfl
            try simp only [Act.put, List.setIfInBounds_toArray, List.set_cons_zero, List.set_cons_succ]
            refine held_take (i := 4) (v := ?_) 34 rfl rfl (by kernel_rfl) (by kernel_rfl) (by kernel_rfl) (fun _ _ _ h => h) (Or.inl ⟨by rfl, ?_⟩) hS ?_
            rotate_left 1
            · intro w' hSw
              try dsimp only at hSw
              obtain ⟨q0, q1⟩ := hSw
              go_simp
              all_goals with_reducible rfl
            try simp only [Act.put, List.setIfInBounds_toArray, List.set_cons_zero, List.set_cons_succ]
            refine wpAnyH_fin (f := fun a g => (((((a.put (some 35) (.tuple #[.agg #[.int .i64 d.s.head, .slice d.A d.n d.c, .int .i64 d.s.lane.lo, .int .i64 d.s.lane.hi, .int .i64 d.s.bend], .int .i64 0])).put (some 29) (.tuple #[.agg #[.int .i64 d.s.head, .slice d.A d.n d.c, .int .i64 d.s.lane.lo, .int .i64 d.s.lane.hi, .int .i64 d.s.bend], .int .i64 0])).put (some 36) (.agg #[.int .i64 d.s.head, .slice d.A d.n d.c, .int .i64 d.s.lane.lo, .int .i64 d.s.lane.hi, .int .i64 d.s.bend])).put (some 37) (.int .i64 0)).put (some 9) (.pointer (some ⟨g, 0, none⟩))).put (some 10) (.int .i64 0)) (B := fun g W' => Blk W' g 74 #[.int .i64 d.s.head, .slice d.A d.n d.c, .int .i64 d.s.lane.lo, .int .i64 d.s.lane.hi, .int .i64 d.s.bend] ∧ W.heap.size ≤ g ∧ Below W.heap.size W W') ?_ (fun hrest => ?_)
            · rintro g9 W3 ⟨k9, hg9, hb10⟩
              try simp only [Act.put, List.setIfInBounds_toArray, List.set_cons_zero, List.set_cons_succ]
              refine noPanic_normal ?_
              clear hS hck hb9
              replace hown := ownsRow_below hown hb10
              replace hb := hb.trans (hb10.mono hb.size)
              replace y0 := (hb10.cell (p := ⟨bM, oM + k, none⟩) hbM).trans y0
              clear hSb hb10 k8 hst hbt hbL hbM
              go_wp2_with fail
              refine wp_held_np (fun w' : World => (∀ j, w'.cell? ⟨g9, j, none⟩ = #[Value.int .i64 d.s.head, .slice d.A d.n d.c, .int .i64 d.s.lane.lo, .int .i64 d.s.lane.hi, .int .i64 d.s.bend][j]?) ∧ w'.cell? ⟨bM, oM + k, none⟩ = some (.slice e.O e.n e.c)) (by kernel_rfl) ?_
              replace k9 := k9.drew
              replace hown : W3.drew.ownsRow _ _ _ _ _ _ := hown
              replace hb := hb.drew
              replace y0 : W3.drew.cell? _ = _ := y0
              generalize W3.drew = W4 at *
              have hS : (fun w' : World => (∀ j, w'.cell? ⟨g9, j, none⟩ = #[Value.int .i64 d.s.head, .slice d.A d.n d.c, .int .i64 d.s.lane.lo, .int .i64 d.s.lane.hi, .int .i64 d.s.bend][j]?) ∧ w'.cell? ⟨bM, oM + k, none⟩ = some (.slice e.O e.n e.c)) W4 := ⟨k9.cell, y0⟩
              refine held_take (i := 0) (v := ?_) 40 rfl rfl (by kernel_rfl) (by kernel_rfl) (by kernel_rfl) (fun _ _ _ h => h) (Or.inl ⟨by rfl, ?_⟩) hS ?_
              rotate_left 1
              · intro w' hSw
                try dsimp only at hSw
                obtain ⟨q0, q1⟩ := hSw
                go_simp
                all_goals with_reducible rfl
              try simp only [Act.put, List.setIfInBounds_toArray, List.set_cons_zero, List.set_cons_succ]
              refine held_take (i := 1) (v := ?_) 41 rfl rfl (by kernel_rfl) (by kernel_rfl) (by kernel_rfl) (fun _ _ _ h => h) (Or.inl ⟨by rfl, ?_⟩) hS ?_
              rotate_left 1
              · intro w' hSw
                try dsimp only at hSw
                obtain ⟨q0, q1⟩ := hSw
                go_simp
                all_goals with_reducible rfl
              try simp only [Act.put, List.setIfInBounds_toArray, List.set_cons_zero, List.set_cons_succ]
              refine held_take (i := 2) (v := ?_) 42 rfl rfl (by kernel_rfl) (by kernel_rfl) (by kernel_rfl) (fun _ _ _ h => h) (Or.inl ⟨by rfl, ?_⟩) hS ?_
              rotate_left 1
              · intro w' hSw
                try dsimp only at hSw
                obtain ⟨q0, q1⟩ := hSw
                go_simp
                all_goals with_reducible rfl
              try simp only [Act.put, List.setIfInBounds_toArray, List.set_cons_zero, List.set_cons_succ]
              refine held_take (i := 3) (v := ?_) 43 rfl rfl (by kernel_rfl) (by kernel_rfl) (by kernel_rfl) (fun _ _ _ h => h) (Or.inl ⟨by rfl, ?_⟩) hS ?_
              rotate_left 1
              · intro w' hSw
                try dsimp only at hSw
                obtain ⟨q0, q1⟩ := hSw
                go_simp
                all_goals with_reducible rfl
              try simp only [Act.put, List.setIfInBounds_toArray, List.set_cons_zero, List.set_cons_succ]
              refine held_take (i := 4) (v := ?_) 44 rfl rfl (by kernel_rfl) (by kernel_rfl) (by kernel_rfl) (fun _ _ _ h => h) (Or.inl ⟨by rfl, ?_⟩) hS ?_
              rotate_left 1
              · intro w' hSw
                try dsimp only at hSw
                obtain ⟨q0, q1⟩ := hSw
                go_simp
                all_goals with_reducible rfl
              try simp only [Act.put, List.setIfInBounds_toArray, List.set_cons_zero, List.set_cons_succ]
              refine held_take (i := 5) (v := ?_) 45 rfl rfl (by kernel_rfl) (by kernel_rfl) (by kernel_rfl) (fun _ _ _ h => h) (Or.inl ⟨by rfl, ?_⟩) hS ?_
              rotate_left 1
              · intro w' hSw
                try dsimp only at hSw
                obtain ⟨q0, q1⟩ := hSw
                go_simp
                all_goals with_reducible rfl
              try simp only [Act.put, List.setIfInBounds_toArray, List.set_cons_zero, List.set_cons_succ]
              refine held_take (i := 6) (v := ?_) 46 rfl rfl (by kernel_rfl) (by kernel_rfl) (by kernel_rfl) (fun _ _ _ h => h) (Or.inl ⟨by rfl, ?_⟩) hS ?_
              rotate_left 1
              · intro w' hSw
                try dsimp only at hSw
                obtain ⟨q0, q1⟩ := hSw
                go_simp
                all_goals with_reducible rfl
              try simp only [Act.put, List.setIfInBounds_toArray, List.set_cons_zero, List.set_cons_succ]
              have hownf := hown.alloc (.cells #[.int .i64 d.s.head, .slice d.A d.n d.c, .int .i64 d.s.lane.lo, .int .i64 d.s.lane.hi, .int .i64 d.s.bend, .slice e.O e.n e.c] 85)
              have hbf := hb.alloc hb.size (.cells #[.int .i64 d.s.head, .slice d.A d.n d.c, .int .i64 d.s.lane.lo, .int .i64 d.s.lane.hi, .int .i64 d.s.bend, .slice e.O e.n e.c] 85)
              have hnews : ∀ (j : Nat) (u : Value), ([.int .i64 d.s.head, .slice d.A d.n d.c, .int .i64 d.s.lane.lo, .int .i64 d.s.lane.hi, .int .i64 d.s.bend, .slice e.O e.n e.c] : List Value)[j]? = some u → (W4.alloc (.cells #[.int .i64 d.s.head, .slice d.A d.n d.c, .int .i64 d.s.lane.lo, .int .i64 d.s.lane.hi, .int .i64 d.s.bend, .slice e.O e.n e.c] 85)).cell? ((⟨W4.heap.size, 0, none⟩ : Addr).add j) = some u :=
                World.news_of_block (cs := #[.int .i64 d.s.head, .slice d.A d.n d.c, .int .i64 d.s.lane.lo, .int .i64 d.s.lane.hi, .int .i64 d.s.bend, .slice e.O e.n e.c]) (World.alloc_heap_new W4 _)
              obtain ⟨i0, hi0, hz0, hz1, hz2⟩ := info_parts Tryz.infoTw
              have hbig1 : Hid (k + 1 ≤ maxLen) := by show k + 1 ≤ maxLen; unfold maxLen; omega
              have hbig2 : Hid ((k + 1) * 80 ≤ 140737488355328) := by show (k + 1) * 80 ≤ 140737488355328; omega
              have hSa : (fun w' : World => (∀ j, w'.cell? ⟨g9, j, none⟩ = #[Value.int .i64 d.s.head, .slice d.A d.n d.c, .int .i64 d.s.lane.lo, .int .i64 d.s.lane.hi, .int .i64 d.s.bend][j]?) ∧ w'.cell? ⟨bM, oM + k, none⟩ = some (.slice e.O e.n e.c)) (W4.alloc (.cells #[.int .i64 d.s.head, .slice d.A d.n d.c, .int .i64 d.s.lane.lo, .int .i64 d.s.lane.hi, .int .i64 d.s.bend, .slice e.O e.n e.c] 85)) := ⟨(k9.alloc _).cell, (World.cell?_alloc_lt _ _ _ (World.block_lt_of_cell? _ _ y0)).trans y0⟩
              refine held_one (i := 7) (by kernel_rfl) rfl rfl (fun K hK => ?_)
              go_simp
              refine hK _ _ hSa ?_
              clear hK K hS
              try simp only [Act.put, List.setIfInBounds_toArray, List.set_cons_zero, List.set_cons_succ]
              refine held_one (i := 8) (by kernel_rfl) rfl rfl (fun K hK => ?_)
              refine wp_append_lies _ _ _ 107 (by rfl) w.heap.size 85 i0 (.agg #[.int .i64 0, .slice none 0 0, .int .i64 0, .int .i64 0, .int .i64 0, .slice none 0 0]) 6 80 Tryz.underlying107 hi0 hz0 hz1 hz2 rfl (by omega) u6 k (((zipT ds es).take k).flatMap TlD.cells) (by rfl) hownf ⟨W4.heap.size, 0, none⟩ 1 1 [.int .i64 d.s.head, .slice d.A d.n d.c, .int .i64 d.s.lane.lo, .int .i64 d.s.lane.hi, .int .i64 d.s.bend, .slice e.O e.n e.c] (by rfl) rfl hnews (by simp [Value.oneCell']) (by omega) hbig1.out hbig2.out hbf.size (W4.heap.size + 1) (by simp) ?_
              intro g cap w7 hown7 hgrow hlies hlt7
              have hbg : Below w.heap.size _ w7 := ⟨hgrow.os, hgrow.tape, hgrow.output, hgrow.size, fun b hb2 => hgrow.block b (Nat.lt_of_lt_of_le hb2 hbf.size) (fun e => by have := (hownf.lt _ e.symm).1; omega)⟩
              have hbh := hbf.trans hbg
              have k9g := ((k9.alloc (.cells #[.int .i64 d.s.head, .slice d.A d.n d.c, .int .i64 d.s.lane.lo, .int .i64 d.s.lane.hi, .int .i64 d.s.bend, .slice e.O e.n e.c] 85)).grown hgrow (fun e => by have := hu6 _ e.symm; omega)).cell
              have y0g : w7.cell? ⟨bM, oM + k, none⟩ = some (.slice e.O e.n e.c) := by
                rw [← hSa.2]
                apply cell_eq
                exact hgrow.block bM (Nat.lt_of_lt_of_le hbM0 hbf.size) (fun e => by have := hu6 _ e.symm; omega)
              have hSe : (fun w' : World => (∀ j, w'.cell? ⟨g9, j, none⟩ = #[Value.int .i64 d.s.head, .slice d.A d.n d.c, .int .i64 d.s.lane.lo, .int .i64 d.s.lane.hi, .int .i64 d.s.bend][j]?) ∧ w'.cell? ⟨bM, oM + k, none⟩ = some (.slice e.O e.n e.c)) w7 := ⟨k9g, y0g⟩
              refine hK _ _ hSe ?_
              clear hK K
              have hS := hSe
              try simp only [Act.put, List.setIfInBounds_toArray, List.set_cons_zero, List.set_cons_succ]
              refine held_take (i := 9) (v := ?_) 6 rfl rfl (by kernel_rfl) (by kernel_rfl) (by kernel_rfl) (fun _ _ _ h => h) (Or.inl ⟨by rfl, ?_⟩) hS ?_
              rotate_left 1
              · intro w' hSw
                try dsimp only at hSw
                obtain ⟨q0, q1⟩ := hSw
                go_simp
                all_goals with_reducible rfl
              try simp only [Act.put, List.setIfInBounds_toArray, List.set_cons_zero, List.set_cons_succ]
              refine wpAnyH_done (by kernel_rfl) (noPanic_normal ?_) _
              clear hS hSe hSa
              go_wp2_with fail
              go_roundw
              case rel =>
                refine ⟨k + 1, by go_num, by omega, by rw [hnx.out]; exact hsp.out, ?_, hbh⟩
                rw [htk.out, List.flatMap_append]
                exact hown7
              case measure => simp [intOf]; omega
            · try simp only [Act.put, List.setIfInBounds_toArray, List.set_cons_zero, List.set_cons_succ] at hrest
              refine held_two (i := 5) (j := 9) (by kernel_rfl) rfl rfl rfl rfl (fun K hK => ?_) (fun K hK => ?_)
              · skip
                go_simp
                refine (hck _ (SlAt.below hst hb9) (SlAt.below hbt hb9)).mono ?_
                rintro e X1 ⟨r1, r2, hbel⟩
                obtain rfl := r1 her.out
                clear r1 r2
                replace hb9 := hb9.trans (hbel.mono hb9.size)
                try replace k9 := k9.below hbel
                clear hS hbel
                have hS := hSb.out _ hb9
                refine hK _ _ hS ?_
                clear hK K
                try simp only [Act.put, List.setIfInBounds_toArray, List.set_cons_zero, List.set_cons_succ]
                refine held_take (i := 6) (v := ?_) 29 rfl rfl (by kernel_rfl) (by kernel_rfl) (by kernel_rfl) (fun _ _ _ h => h) (Or.inl ⟨by rfl, ?_⟩) hS ?_
                rotate_left 1
                · intro w' hSw
                  try dsimp only at hSw
                  obtain ⟨q0, q1⟩ := hSw
                  go_simp
                  all_goals with_reducible rfl
                try simp only [Act.put, List.setIfInBounds_toArray, List.set_cons_zero, List.set_cons_succ]
                refine held_take (i := 7) (v := ?_) 36 rfl rfl (by kernel_rfl) (by kernel_rfl) (by kernel_rfl) (fun _ _ _ h => h) (Or.inl ⟨by rfl, ?_⟩) hS ?_
                rotate_left 1
                · intro w' hSw
                  try dsimp only at hSw
                  obtain ⟨q0, q1⟩ := hSw
                  go_simp
                  all_goals with_reducible rfl
                try simp only [Act.put, List.setIfInBounds_toArray, List.set_cons_zero, List.set_cons_succ]
                refine held_take (i := 8) (v := ?_) 37 rfl rfl (by kernel_rfl) (by kernel_rfl) (by kernel_rfl) (fun _ _ _ h => h) (Or.inl ⟨by rfl, ?_⟩) hS ?_
                rotate_left 1
                · intro w' hSw
                  try dsimp only at hSw
                  obtain ⟨q0, q1⟩ := hSw
                  go_simp
                  all_goals with_reducible rfl
                try simp only [Act.put, List.setIfInBounds_toArray, List.set_cons_zero, List.set_cons_succ]
                refine held_one (i := 9) (by kernel_rfl) rfl rfl (fun K hK => ?_)
                go_simp
                have hgg := hb9.size
                have k9 := Blk.new X1 74 #[.int .i64 0, .slice none 0 0, .int .i64 0, .int .i64 0, .int .i64 0]
                replace hb9 := hb9.alloc hb9.size (.cells #[.int .i64 0, .slice none 0 0, .int .i64 0, .int .i64 0, .int .i64 0] 74)
                clear hS
                have hS := hSb.out _ hb9
                refine hK _ _ hS ?_
                clear hK K
                try simp only [Act.put, List.setIfInBounds_toArray, List.set_cons_zero, List.set_cons_succ]
                generalize X1.heap.size = g9 at *
                generalize X1.alloc (.cells #[.int .i64 0, .slice none 0 0, .int .i64 0, .int .i64 0, .int .i64 0] 74) = X2 at *
                refine held_one (i := 10) (by kernel_rfl) rfl rfl (fun K hK => ?_)
                have kz := ((((k9.set_ 0 (.int .i64 d.s.head)).set_ 1 (.slice d.A d.n d.c)).set_ 2 (.int .i64 d.s.lane.lo)).set_ 3 (.int .i64 d.s.lane.hi)).set_ 4 (.int .i64 d.s.bend)
                simp only [List.setIfInBounds_toArray, List.set_cons_zero, List.set_cons_succ] at kz
                have bz := ((((hb9.setCell (p := ⟨g9, 0, none⟩) (by dsimp only; omega) (.int .i64 d.s.head)).setCell (p := ⟨g9, 1, none⟩) (by dsimp only; omega) (.slice d.A d.n d.c)).setCell (p := ⟨g9, 2, none⟩) (by dsimp only; omega) (.int .i64 d.s.lane.lo)).setCell (p := ⟨g9, 3, none⟩) (by dsimp only; omega) (.int .i64 d.s.lane.hi)).setCell (p := ⟨g9, 4, none⟩) (by dsimp only; omega) (.int .i64 d.s.bend)
                obtain ⟨X3, hwz⟩ : ∃ x, x = ((((X2.setCell ⟨g9, 0, none⟩ (.int .i64 d.s.head)).setCell ⟨g9, 1, none⟩ (.slice d.A d.n d.c)).setCell ⟨g9, 2, none⟩ (.int .i64 d.s.lane.lo)).setCell ⟨g9, 3, none⟩ (.int .i64 d.s.lane.hi)).setCell ⟨g9, 4, none⟩ (.int .i64 d.s.bend) := ⟨_, rfl⟩
                rw [← hwz] at kz bz
                obtain ⟨c9, f9, l9⟩ := k9.rules
                go_simp
                rw [← hwz]
                clear hwz c9 f9 l9 hS
                have hS := hSb.out _ bz
                refine hK _ _ hS ?_
                clear hK K
                try simp only [Act.put, List.setIfInBounds_toArray, List.set_cons_zero, List.set_cons_succ]
                refine held_take (i := 11) (v := ?_) 10 rfl rfl (by kernel_rfl) (by kernel_rfl) (by kernel_rfl) (fun _ _ _ h => h) (Or.inl ⟨by rfl, ?_⟩) hS ?_
                rotate_left 1
                · intro w' hSw
                  try dsimp only at hSw
                  obtain ⟨q0, q1⟩ := hSw
                  go_simp
                  all_goals with_reducible rfl
                try simp only [Act.put, List.setIfInBounds_toArray, List.set_cons_zero, List.set_cons_succ]
                refine wpAnyH_done (by kernel_rfl) (hrest (g9) _ ⟨kz, hgg, bz⟩) _
              · skip
                go_simp
                have hgg := hb9.size
                have k9 := Blk.new wd 74 #[.int .i64 0, .slice none 0 0, .int .i64 0, .int .i64 0, .int .i64 0]
                replace hb9 := hb9.alloc hb9.size (.cells #[.int .i64 0, .slice none 0 0, .int .i64 0, .int .i64 0, .int .i64 0] 74)
                clear hS
                have hS := hSb.out _ hb9
                refine hK _ _ hS ?_
                clear hK K
                try simp only [Act.put, List.setIfInBounds_toArray, List.set_cons_zero, List.set_cons_succ]
                generalize wd.heap.size = g9 at *
                generalize wd.alloc (.cells #[.int .i64 0, .slice none 0 0, .int .i64 0, .int .i64 0, .int .i64 0] 74) = X4 at *
                refine held_one (i := 5) (by kernel_rfl) rfl rfl (fun K hK => ?_)
                go_simp
                refine (hck _ (SlAt.below hst hb9) (SlAt.below hbt hb9)).mono ?_
                rintro e X5 ⟨r1, r2, hbel⟩
                obtain rfl := r1 her.out
                clear r1 r2
                replace hb9 := hb9.trans (hbel.mono hb9.size)
                try replace k9 := k9.below hbel
                clear hS hbel
                have hS := hSb.out _ hb9
                refine hK _ _ hS ?_
                clear hK K
                try simp only [Act.put, List.setIfInBounds_toArray, List.set_cons_zero, List.set_cons_succ]
                refine held_take (i := 6) (v := ?_) 29 rfl rfl (by kernel_rfl) (by kernel_rfl) (by kernel_rfl) (fun _ _ _ h => h) (Or.inl ⟨by rfl, ?_⟩) hS ?_
                rotate_left 1
                · intro w' hSw
                  try dsimp only at hSw
                  obtain ⟨q0, q1⟩ := hSw
                  go_simp
                  all_goals with_reducible rfl
                try simp only [Act.put, List.setIfInBounds_toArray, List.set_cons_zero, List.set_cons_succ]
                refine held_take (i := 7) (v := ?_) 36 rfl rfl (by kernel_rfl) (by kernel_rfl) (by kernel_rfl) (fun _ _ _ h => h) (Or.inl ⟨by rfl, ?_⟩) hS ?_
                rotate_left 1
                · intro w' hSw
                  try dsimp only at hSw
                  obtain ⟨q0, q1⟩ := hSw
                  go_simp
                  all_goals with_reducible rfl
                try simp only [Act.put, List.setIfInBounds_toArray, List.set_cons_zero, List.set_cons_succ]
                refine held_take (i := 8) (v := ?_) 37 rfl rfl (by kernel_rfl) (by kernel_rfl) (by kernel_rfl) (fun _ _ _ h => h) (Or.inl ⟨by rfl, ?_⟩) hS ?_
                rotate_left 1
                · intro w' hSw
                  try dsimp only at hSw
                  obtain ⟨q0, q1⟩ := hSw
                  go_simp
                  all_goals with_reducible rfl
                try simp only [Act.put, List.setIfInBounds_toArray, List.set_cons_zero, List.set_cons_succ]
                refine held_one (i := 10) (by kernel_rfl) rfl rfl (fun K hK => ?_)
                have kz := ((((k9.set_ 0 (.int .i64 d.s.head)).set_ 1 (.slice d.A d.n d.c)).set_ 2 (.int .i64 d.s.lane.lo)).set_ 3 (.int .i64 d.s.lane.hi)).set_ 4 (.int .i64 d.s.bend)
                simp only [List.setIfInBounds_toArray, List.set_cons_zero, List.set_cons_succ] at kz
                have bz := ((((hb9.setCell (p := ⟨g9, 0, none⟩) (by dsimp only; omega) (.int .i64 d.s.head)).setCell (p := ⟨g9, 1, none⟩) (by dsimp only; omega) (.slice d.A d.n d.c)).setCell (p := ⟨g9, 2, none⟩) (by dsimp only; omega) (.int .i64 d.s.lane.lo)).setCell (p := ⟨g9, 3, none⟩) (by dsimp only; omega) (.int .i64 d.s.lane.hi)).setCell (p := ⟨g9, 4, none⟩) (by dsimp only; omega) (.int .i64 d.s.bend)
                obtain ⟨X6, hwz⟩ : ∃ x, x = ((((X5.setCell ⟨g9, 0, none⟩ (.int .i64 d.s.head)).setCell ⟨g9, 1, none⟩ (.slice d.A d.n d.c)).setCell ⟨g9, 2, none⟩ (.int .i64 d.s.lane.lo)).setCell ⟨g9, 3, none⟩ (.int .i64 d.s.lane.hi)).setCell ⟨g9, 4, none⟩ (.int .i64 d.s.bend) := ⟨_, rfl⟩
                rw [← hwz] at kz bz
                obtain ⟨c9, f9, l9⟩ := k9.rules
                go_simp
                rw [← hwz]
                clear hwz c9 f9 l9 hS
                have hS := hSb.out _ bz
                refine hK _ _ hS ?_
                clear hK K
                try simp only [Act.put, List.setIfInBounds_toArray, List.set_cons_zero, List.set_cons_succ]
                refine held_take (i := 11) (v := ?_) 10 rfl rfl (by kernel_rfl) (by kernel_rfl) (by kernel_rfl) (fun _ _ _ h => h) (Or.inl ⟨by rfl, ?_⟩) hS ?_
                rotate_left 1
                · intro w' hSw
                  try dsimp only at hSw
                  obtain ⟨q0, q1⟩ := hSw
                  go_simp
                  all_goals with_reducible rfl
                try simp only [Act.put, List.setIfInBounds_toArray, List.set_cons_zero, List.set_cons_succ]
                refine wpAnyH_done (by kernel_rfl) (hrest (g9) _ ⟨kz, hgg, bz⟩) _
          · rw [decide_eq_false her, Bool.and_false] at hnx
            obtain ⟨er, hee⟩ : ∃ er, errB d.s e.bs = er := ⟨_, rfl⟩
            rw [hee] at her
            have her2 : (er != 0) = true := by rw [bne_iff_ne]; exact her
            simp only [hee] at hck
            replace her := Lib.hid her
            replace hee := Lib.hid hee
            refine held_take (i := 0) (v := ?_) 30 rfl rfl (by kernel_rfl) (by kernel_rfl) (by kernel_rfl) (fun _ _ _ h => h) (Or.inl ⟨by rfl, ?_⟩) hS ?_
            rotate_left 1
            · intro w' hSw
              try dsimp only at hSw
              obtain ⟨q0, q1⟩ := hSw
              go_simp
              all_goals with_reducible rfl
            try simp only [Act.put, List.setIfInBounds_toArray, List.set_cons_zero, List.set_cons_succ]
            refine held_take (i := 1) (v := ?_) 31 rfl rfl (by kernel_rfl) (by kernel_rfl) (by kernel_rfl) (fun _ _ _ h => h) (Or.inl ⟨by rfl, ?_⟩) hS ?_
            rotate_left 1
            · intro w' hSw
              try dsimp only at hSw
              obtain ⟨q0, q1⟩ := hSw
              go_simp
              all_goals with_reducible rfl
            try simp only [Act.put, List.setIfInBounds_toArray, List.set_cons_zero, List.set_cons_succ]
            refine held_take (i := 2) (v := ?_) 32 rfl rfl (by kernel_rfl) (by kernel_rfl) (by kernel_rfl) (fun _ _ _ h => h) (Or.inl ⟨by rfl, ?_⟩) hS ?_
            rotate_left 1
            · intro w' hSw
              try dsimp only at hSw
              obtain ⟨q0, q1⟩ := hSw
              go_simp
              all_goals with_reducible rfl
            try simp only [Act.put, List.setIfInBounds_toArray, List.set_cons_zero, List.set_cons_succ]
            refine held_take (i := 3) (v := ?_) 33 rfl rfl (by kernel_rfl) (by kernel_rfl) (by kernel_rfl) (fun _ _ _ h => h) (Or.inl ⟨by rfl, ?_⟩) hS ?_
            rotate_left 1
            · intro w' hSw
              try dsimp only at hSw
              obtain ⟨q0, q1⟩ := hSw
              go_simp
              all_goals with_reducible rfl
            try simp only [Act.put, List.setIfInBounds_toArray, List.set_cons_zero, List.set_cons_succ]
            refine held_take (i := 4) (v := ?_) 34 rfl rfl (by kernel_rfl) (by kernel_rfl) (by kernel_rfl) (fun _ _ _ h => h) (Or.inl ⟨by rfl, ?_⟩) hS ?_
            rotate_left 1
            · intro w' hSw
              try dsimp only at hSw
              obtain ⟨q0, q1⟩ := hSw
              go_simp
              all_goals with_reducible rfl
            try simp only [Act.put, List.setIfInBounds_toArray, List.set_cons_zero, List.set_cons_succ]
            refine wpAnyH_fin (f := fun a g => (((((a.put (some 35) (.tuple #[.agg #[.int .i64 0, .slice none 0 0, .int .i64 0, .int .i64 0, .int .i64 0], .int .i64 er])).put (some 29) (.tuple #[.agg #[.int .i64 0, .slice none 0 0, .int .i64 0, .int .i64 0, .int .i64 0], .int .i64 er])).put (some 36) (.agg #[.int .i64 0, .slice none 0 0, .int .i64 0, .int .i64 0, .int .i64 0])).put (some 37) (.int .i64 er)).put (some 9) (.pointer (some ⟨g, 0, none⟩))).put (some 10) (.int .i64 er)) (B := fun g W' => Blk W' g 74 #[.int .i64 0, .slice none 0 0, .int .i64 0, .int .i64 0, .int .i64 0] ∧ W.heap.size ≤ g ∧ Below W.heap.size W W') ?_ (fun hrest => ?_)
            · rintro g9 W3 ⟨k9, hg9, hb10⟩
              try simp only [Act.put, List.setIfInBounds_toArray, List.set_cons_zero, List.set_cons_succ]
              refine noPanic_normal ?_
              clear hS hck hb9 hSb
              replace hb := hb.trans (hb10.mono hb.size)
              have hno : Hid (sprOk ds es = false) := by show _ = _; rw [hok.out]; exact sprTo_no hnx.out m (by omega)
              go_wp2
              go_ret2
              exact ⟨none, 0, 0, by rw [hno.out]; rfl, (fun h => by rw [hno.out] at h; cases h), hb⟩
            · try simp only [Act.put, List.setIfInBounds_toArray, List.set_cons_zero, List.set_cons_succ] at hrest
              refine held_two (i := 5) (j := 9) (by kernel_rfl) rfl rfl rfl rfl (fun K hK => ?_) (fun K hK => ?_)
              · skip
                go_simp
                refine (hck _ (SlAt.below hst hb9) (SlAt.below hbt hb9)).mono ?_
                rintro e X7 ⟨r1, r2, hbel⟩
                obtain rfl := r2 her.out
                clear r1 r2
                replace hb9 := hb9.trans (hbel.mono hb9.size)
                try replace k9 := k9.below hbel
                clear hS hbel
                have hS := hSb.out _ hb9
                refine hK _ _ hS ?_
                clear hK K
                try simp only [Act.put, List.setIfInBounds_toArray, List.set_cons_zero, List.set_cons_succ]
                refine held_take (i := 6) (v := ?_) 29 rfl rfl (by kernel_rfl) (by kernel_rfl) (by kernel_rfl) (fun _ _ _ h => h) (Or.inl ⟨by rfl, ?_⟩) hS ?_
                rotate_left 1
                · intro w' hSw
                  try dsimp only at hSw
                  obtain ⟨q0, q1⟩ := hSw
                  go_simp
                  all_goals with_reducible rfl
                try simp only [Act.put, List.setIfInBounds_toArray, List.set_cons_zero, List.set_cons_succ]
                refine held_take (i := 7) (v := ?_) 36 rfl rfl (by kernel_rfl) (by kernel_rfl) (by kernel_rfl) (fun _ _ _ h => h) (Or.inl ⟨by rfl, ?_⟩) hS ?_
                rotate_left 1
                · intro w' hSw
                  try dsimp only at hSw
                  obtain ⟨q0, q1⟩ := hSw
                  go_simp
                  all_goals with_reducible rfl
                try simp only [Act.put, List.setIfInBounds_toArray, List.set_cons_zero, List.set_cons_succ]
                refine held_take (i := 8) (v := ?_) 37 rfl rfl (by kernel_rfl) (by kernel_rfl) (by kernel_rfl) (fun _ _ _ h => h) (Or.inl ⟨by rfl, ?_⟩) hS ?_
                rotate_left 1
                · intro w' hSw
                  try dsimp only at hSw
                  obtain ⟨q0, q1⟩ := hSw
                  go_simp
                  all_goals with_reducible rfl
                try simp only [Act.put, List.setIfInBounds_toArray, List.set_cons_zero, List.set_cons_succ]
                refine held_one (i := 9) (by kernel_rfl) rfl rfl (fun K hK => ?_)
                go_simp
                have hgg := hb9.size
                have k9 := Blk.new X7 74 #[.int .i64 0, .slice none 0 0, .int .i64 0, .int .i64 0, .int .i64 0]
                replace hb9 := hb9.alloc hb9.size (.cells #[.int .i64 0, .slice none 0 0, .int .i64 0, .int .i64 0, .int .i64 0] 74)
                clear hS
                have hS := hSb.out _ hb9
                refine hK _ _ hS ?_
                clear hK K
                try simp only [Act.put, List.setIfInBounds_toArray, List.set_cons_zero, List.set_cons_succ]
                generalize X7.heap.size = g9 at *
                generalize X7.alloc (.cells #[.int .i64 0, .slice none 0 0, .int .i64 0, .int .i64 0, .int .i64 0] 74) = X8 at *
                refine held_one (i := 10) (by kernel_rfl) rfl rfl (fun K hK => ?_)
                have kz := ((((k9.set_ 0 (.int .i64 0)).set_ 1 (.slice none 0 0)).set_ 2 (.int .i64 0)).set_ 3 (.int .i64 0)).set_ 4 (.int .i64 0)
                simp only [List.setIfInBounds_toArray, List.set_cons_zero, List.set_cons_succ] at kz
                have bz := ((((hb9.setCell (p := ⟨g9, 0, none⟩) (by dsimp only; omega) (.int .i64 0)).setCell (p := ⟨g9, 1, none⟩) (by dsimp only; omega) (.slice none 0 0)).setCell (p := ⟨g9, 2, none⟩) (by dsimp only; omega) (.int .i64 0)).setCell (p := ⟨g9, 3, none⟩) (by dsimp only; omega) (.int .i64 0)).setCell (p := ⟨g9, 4, none⟩) (by dsimp only; omega) (.int .i64 0)
                obtain ⟨X9, hwz⟩ : ∃ x, x = ((((X8.setCell ⟨g9, 0, none⟩ (.int .i64 0)).setCell ⟨g9, 1, none⟩ (.slice none 0 0)).setCell ⟨g9, 2, none⟩ (.int .i64 0)).setCell ⟨g9, 3, none⟩ (.int .i64 0)).setCell ⟨g9, 4, none⟩ (.int .i64 0) := ⟨_, rfl⟩
                rw [← hwz] at kz bz
                obtain ⟨c9, f9, l9⟩ := k9.rules
                go_simp
                rw [← hwz]
                clear hwz c9 f9 l9 hS
                have hS := hSb.out _ bz
                refine hK _ _ hS ?_
                clear hK K
                try simp only [Act.put, List.setIfInBounds_toArray, List.set_cons_zero, List.set_cons_succ]
                refine held_take (i := 11) (v := ?_) 10 rfl rfl (by kernel_rfl) (by kernel_rfl) (by kernel_rfl) (fun _ _ _ h => h) (Or.inl ⟨by rfl, ?_⟩) hS ?_
                rotate_left 1
                · intro w' hSw
                  try dsimp only at hSw
                  obtain ⟨q0, q1⟩ := hSw
                  go_simp
                  all_goals with_reducible rfl
                try simp only [Act.put, List.setIfInBounds_toArray, List.set_cons_zero, List.set_cons_succ]
                refine wpAnyH_done (by kernel_rfl) (hrest (g9) _ ⟨kz, hgg, bz⟩) _
              · skip
                go_simp
                have hgg := hb9.size
                have k9 := Blk.new wd 74 #[.int .i64 0, .slice none 0 0, .int .i64 0, .int .i64 0, .int .i64 0]
                replace hb9 := hb9.alloc hb9.size (.cells #[.int .i64 0, .slice none 0 0, .int .i64 0, .int .i64 0, .int .i64 0] 74)
                clear hS
                have hS := hSb.out _ hb9
                refine hK _ _ hS ?_
                clear hK K
                try simp only [Act.put, List.setIfInBounds_toArray, List.set_cons_zero, List.set_cons_succ]
                generalize wd.heap.size = g9 at *
                generalize wd.alloc (.cells #[.int .i64 0, .slice none 0 0, .int .i64 0, .int .i64 0, .int .i64 0] 74) = X10 at *
                refine held_one (i := 5) (by kernel_rfl) rfl rfl (fun K hK => ?_)
                go_simp
                refine (hck _ (SlAt.below hst hb9) (SlAt.below hbt hb9)).mono ?_
                rintro e X11 ⟨r1, r2, hbel⟩
                obtain rfl := r2 her.out
                clear r1 r2
                replace hb9 := hb9.trans (hbel.mono hb9.size)
                try replace k9 := k9.below hbel
                clear hS hbel
                have hS := hSb.out _ hb9
                refine hK _ _ hS ?_
                clear hK K
                try simp only [Act.put, List.setIfInBounds_toArray, List.set_cons_zero, List.set_cons_succ]
                refine held_take (i := 6) (v := ?_) 29 rfl rfl (by kernel_rfl) (by kernel_rfl) (by kernel_rfl) (fun _ _ _ h => h) (Or.inl ⟨by rfl, ?_⟩) hS ?_
                rotate_left 1
                · intro w' hSw
                  try dsimp only at hSw
                  obtain ⟨q0, q1⟩ := hSw
                  go_simp
                  all_goals with_reducible rfl
                try simp only [Act.put, List.setIfInBounds_toArray, List.set_cons_zero, List.set_cons_succ]
                refine held_take (i := 7) (v := ?_) 36 rfl rfl (by kernel_rfl) (by kernel_rfl) (by kernel_rfl) (fun _ _ _ h => h) (Or.inl ⟨by rfl, ?_⟩) hS ?_
                rotate_left 1
                · intro w' hSw
                  try dsimp only at hSw
                  obtain ⟨q0, q1⟩ := hSw
                  go_simp
                  all_goals with_reducible rfl
                try simp only [Act.put, List.setIfInBounds_toArray, List.set_cons_zero, List.set_cons_succ]
                refine held_take (i := 8) (v := ?_) 37 rfl rfl (by kernel_rfl) (by kernel_rfl) (by kernel_rfl) (fun _ _ _ h => h) (Or.inl ⟨by rfl, ?_⟩) hS ?_
                rotate_left 1
                · intro w' hSw
                  try dsimp only at hSw
                  obtain ⟨q0, q1⟩ := hSw
                  go_simp
                  all_goals with_reducible rfl
                try simp only [Act.put, List.setIfInBounds_toArray, List.set_cons_zero, List.set_cons_succ]
                refine held_one (i := 10) (by kernel_rfl) rfl rfl (fun K hK => ?_)
                have kz := ((((k9.set_ 0 (.int .i64 0)).set_ 1 (.slice none 0 0)).set_ 2 (.int .i64 0)).set_ 3 (.int .i64 0)).set_ 4 (.int .i64 0)
                simp only [List.setIfInBounds_toArray, List.set_cons_zero, List.set_cons_succ] at kz
                have bz := ((((hb9.setCell (p := ⟨g9, 0, none⟩) (by dsimp only; omega) (.int .i64 0)).setCell (p := ⟨g9, 1, none⟩) (by dsimp only; omega) (.slice none 0 0)).setCell (p := ⟨g9, 2, none⟩) (by dsimp only; omega) (.int .i64 0)).setCell (p := ⟨g9, 3, none⟩) (by dsimp only; omega) (.int .i64 0)).setCell (p := ⟨g9, 4, none⟩) (by dsimp only; omega) (.int .i64 0)
                obtain ⟨X12, hwz⟩ : ∃ x, x = ((((X11.setCell ⟨g9, 0, none⟩ (.int .i64 0)).setCell ⟨g9, 1, none⟩ (.slice none 0 0)).setCell ⟨g9, 2, none⟩ (.int .i64 0)).setCell ⟨g9, 3, none⟩ (.int .i64 0)).setCell ⟨g9, 4, none⟩ (.int .i64 0) := ⟨_, rfl⟩
                rw [← hwz] at kz bz
                obtain ⟨c9, f9, l9⟩ := k9.rules
                go_simp
                rw [← hwz]
                clear hwz c9 f9 l9 hS
                have hS := hSb.out _ bz
                refine hK _ _ hS ?_
                clear hK K
                try simp only [Act.put, List.setIfInBounds_toArray, List.set_cons_zero, List.set_cons_succ]
                refine held_take (i := 11) (v := ?_) 10 rfl rfl (by kernel_rfl) (by kernel_rfl) (by kernel_rfl) (fun _ _ _ h => h) (Or.inl ⟨by rfl, ?_⟩) hS ?_
                rotate_left 1
                · intro w' hSw
                  try dsimp only at hSw
                  obtain ⟨q0, q1⟩ := hSw
                  go_simp
                  all_goals with_reducible rfl
                try simp only [Act.put, List.setIfInBounds_toArray, List.set_cons_zero, List.set_cons_succ]
                refine wpAnyH_done (by kernel_rfl) (hrest (g9) _ ⟨kz, hgg, bz⟩) _
        · obtain rfl : m = k := by omega
          have hlen : (zipT ds es).length = m := by unfold zipT; rw [List.length_zipWith, hdl.out, hel.out]; omega
          rw [List.take_of_length_le (by rw [hlen]; exact Nat.le_refl _)] at hown
          obtain ⟨P, pc, rfl, hP⟩ := SlAt.of_own (enc := TlD.cells) hown (by omega) (zipT ds es) rfl (fun _ => rfl) hlen
          have hyes : Hid (sprOk ds es = true) := by show _ = _; rw [hok.out]; exact hsp.out
          clear hown hlen
          go_wp2
          go_ret2
          exact ⟨P, m, pc, by rw [hyes.out]; rfl, fun _ => ⟨hdl.out.symm, hP⟩, hb⟩
    · have hno : Hid (sprOk ds es = false) := by
        show _ = _
        unfold sprOk
        rw [hdl.out, hel.out, decide_eq_false (by omega), Bool.false_and]
      have hne : ((m : Int) != (n : Int)) = true := by rw [bne_iff_ne]; omega
      go_enter Tryz.func48, Tryz.ntmps48
      go_wp2_with fail
      refine (hw1 _).mono ?_
      rintro e w' ⟨rfl, rfl⟩
      go_wp2
      go_ret2
      exact ⟨none, 0, 0, by rw [hno.out]; rfl, (fun h => by rw [hno.out] at h; cases h), Below.refl _ _⟩
  · simp only [decide_eq_false (show ¬ (1 ≤ (n : Int) ∧ (n : Int) ≤ 4) by omega)] at hw1
    have hno : Hid (sprOk ds es = false) := by
      show _ = _
      unfold sprOk
      rw [hdl.out, hel.out, decide_eq_false (by omega), Bool.false_and]
    go_enter Tryz.func48, Tryz.ntmps48
    go_wp2_with fail
    refine (hw1 _).mono ?_
    rintro e w' ⟨rfl, rfl⟩
    go_wp2
    go_ret2
    exact ⟨none, 0, 0, by rw [hno.out]; rfl, (fun h => by rw [hno.out] at h; cases h), Below.refl _ _⟩
end Go.Proofs.YthjdjpcomocffaaGreat
