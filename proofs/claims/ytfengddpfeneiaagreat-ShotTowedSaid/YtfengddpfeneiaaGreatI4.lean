/-
  A loop over an iterator that keeps a block of its own and writes it between the rounds.
-/
import Derived.Test.YtfengddpfeneiaaGreatBase
import Derived.Sort.LoopGhostIn
namespace Go.Proofs.YtfengddpfeneiaaGreat
open Go.RowKit Go.Shelf
set_option linter.unusedSimpArgs false
set_option linter.unusedVariables false

/-- Below B nothing has turned; rows of cells, but that at x, lie as they lay. -/
def CalmX (x B : Nat) (W W' : World) : Prop := Below B W W' ∧ ∀ (k : Nat) (o : Obj), k ≠ x → W.heap[k]? = some o → o.isCells = true → W'.heap[k]? = some o
theorem Calm.x {B : Nat} {W W' : World} (h : Calm B W W') (x : Nat) : CalmX x B W W' := ⟨h.1, fun k o _ hk ho => h.2 k o hk ho⟩
theorem CalmX.refl (x B : Nat) (W : World) : CalmX x B W W := ⟨Below.refl _ _, fun _ _ _ h _ => h⟩
theorem CalmX.trans {x B : Nat} {A C D : World} (h : CalmX x B A C) (k : CalmX x B C D) : CalmX x B A D := ⟨h.1.trans k.1, fun i o hx hi ho => k.2 i o hx (h.2 i o hx hi ho) ho⟩
theorem CalmX.mono {x B B' : Nat} {A C : World} (h : CalmX x B A C) (hB : B' ≤ B) : CalmX x B' A C := ⟨h.1.mono hB, h.2⟩
theorem calmX_set {x B : Nat} (W : World) (a : Addr) (v : Value) (ha : a.block = x) (hB : B ≤ x) : CalmX x B W (W.setCell a v) :=
  ⟨(Below.refl B W).setCell (by omega) v, fun k o hk h _ => (Below.heap_setCell W a v k (by omega)).trans h⟩
theorem calmX_blk {x B : Nat} {W W' : World} (h : CalmX x B W W') {g : Nat} {t : TypeId} {cs : Array Value} (k : Blk W g t cs) (hg : g ≠ x) : Blk W' g t cs := h.2 g _ hg k rfl
theorem calmX_below {x B B0 : Nat} {w W W' : World} (h : CalmX x B W W') (k : Below B0 w W) (hB : B0 ≤ B) : Below B0 w W' := k.trans (h.1.mono hB)
theorem calmX_own {x B : Nat} {W W' : World} (h : CalmX x B W W') {base : Nat} {e : TypeId} {size : Nat} {v : Value} {n : Nat} {xs : List Value} (k : W.ownsRow base e size v n xs) (hx : v.ownBlock ≠ some x) : W'.ownsRow base e size v n xs := by
  refine ⟨k.1, ?_⟩
  rcases k.2 with h2 | ⟨g, cap, cur, hv, hg, hh, r⟩
  · exact .inl h2
  · exact .inr ⟨g, cap, cur, hv, hg, h.2 g _ (fun e => hx (by rw [hv, ← e]; rfl)) hh rfl, r⟩
theorem calmX_alloc {x B : Nat} (W : World) (o : Obj) (hB : B ≤ W.heap.size) : CalmX x B W (W.alloc o) := (calm_of_below ((Below.refl _ W).alloc (Nat.le_refl _) o) hB).x x
/-- An iterator with one block of its own, the first that it lays, which it may write between the rounds. -/
def IterX (F : Fence) (n : Nat) (P : Program) (g : Nat) (lb : Array Value) (N : Nat) (G : Nat → Nat → Array Value → World → Prop) (L : World → Prop) : Prop :=
  ∀ (l : Nat) (J : Nat → World → Prop) (Jx : World → Prop) (W : World),
    (∀ k A B, J k A → CalmX W.heap.size W.heap.size A B → J k B) → (∀ A B, Jx A → CalmX W.heap.size W.heap.size A B → Jx B) →
    (∀ k vs W1, k < N → J k W1 → L W1 → G W.heap.size k vs W1 → YieldAt F (n - 1) P l vs W1 fun e W' => (e = .returned (.bool true) ∧ J (k + 1) W' ∧ L W' ∧ NC W.heap.size W1 W') ∨ (e = .returned (.bool false) ∧ Jx W' ∧ NC W.heap.size W1 W')) →
    L W → J 0 W →
    CallsIn F n P g (#[.func (.yield l) #[] #[]] ++ lb) W fun e W' => (∃ v, e = .returned v) ∧ (J N W' ∨ Jx W')
variable {F : Fence} {n : Nat} {P : Program}
theorem wp_rangeX {g : Operand} {ps : Array Tmp} {assign body : Code} {Q : Exit → Act → World → Prop} {a : Act} {w : World}
    (hro : F.round = none) (h1 : 1 ≤ n) {gf : Nat} {lb : Array Value} (hg : a.eval g = .func (.func gf) #[] lb) (hFg : F.fn gf) (eg : ∀ args w, (callFunc gf args).run P w = .ok (.enter gf args) w)
    {N : Nat} {G : Nat → Nat → Array Value → World → Prop} {L : World → Prop} (hseq : IterX F (n - 1) P gf lb N G L)
    (hps : ∀ x k vs W, G x k vs W → vs.size = ps.size)
    (I : Nat → World → Prop) (Ix : Code → World → Prop)
    (hI : ∀ k A B, I k A → CalmX (w.heap.size + 2) w.heap.size A B → I k B) (hIx : ∀ c A B, Ix c A → CalmX (w.heap.size + 2) w.heap.size A B → Ix c B) (hL : ∀ A B, L A → Calm w.heap.size A B → L B)
    (h0 : I 0 w) (hL0 : L w)
    (hround : ∀ (l k : Nat) (vs : Array Value) (W : World), w.heap.size ≤ W.heap.size → k < N → I k W → L W → G (w.heap.size + 2) k vs W →
      assign.wpIn (F.inRound l) (n - 1 - 1) P (Exit.then (fun a₁ W1 => Below W.heap.size W W1 ∧ ∀ W2, Calm w.heap.size W1 W2 → body.wpIn (F.inRound l) (n - 1 - 1) P (kPost w.heap.size (I (k + 1)) L Ix W2) a₁ W2) (fun _ _ _ => False))
        { tmps := (ps.zip vs).foldl (fun t (p, v) => t.setIfInBounds p v) a.tmps, defers := [] } W)
    (hdone : ∀ (D : Nat) (W : World), w.heap.size ≤ D → I N W → W.heap[D]? = some (.deferred (some [])) → Q .normal { a with defers := { target := .collected D, args := #[] } :: a.defers } W)
    (hstop : ∀ (D : Nat) (c : Code) (W : World), w.heap.size ≤ D → Ix c W → W.heap[D]? = some (.deferred (some [])) → c.wpIn F n P Q { a with defers := { target := .collected D, args := #[] } :: a.defers } W) :
    (Code.rangeFunc g ps assign body).wpIn F n P Q a w := by
  refine wpIn_rangeFunc ?_
  intro fn hfn
  rw [hro]
  obtain ⟨rec, hrec⟩ : ∃ rec : LoopState → Option Code → Loop, rec = fun st pe => { state := st, pending := pe, fn, tmps := a.tmps, params := ps, assign, body, defers := w.heap.size } := ⟨_, rfl⟩
  obtain ⟨W1, hW1⟩ : ∃ W1, (w.alloc (.deferred (some []))).alloc (.loop (rec .ready none)) = W1 := ⟨_, rfl⟩
  have hL1 : W1.heap[w.heap.size + 1]? = some (.loop (rec .ready none)) := by
    rw [← hW1]; have := World.alloc_heap_new (w.alloc (.deferred (some []))) (.loop (rec .ready none)); rwa [World.size_alloc] at this
  have hK1 : W1.heap[w.heap.size]? = some (.deferred (some [])) := by
    rw [← hW1]; exact (Below.heap_alloc _ _ _ (by simp)).trans (World.alloc_heap_new w _)
  have hb1 : Below w.heap.size w W1 := by
    rw [← hW1]; exact ((Below.refl _ w).alloc (Nat.le_refl _) _).alloc (by simp) _
  have hs1 : W1.heap.size = w.heap.size + 2 := by rw [← hW1]; simp
  have hc1 : Calm w.heap.size w W1 := calm_of_below hb1 (Nat.le_refl _)
  refine ⟨w.heap.size + 1, [{ target := .collected w.heap.size, args := #[] }], W1, { target := .fn (.func gf) lb, args := #[.func (.yield (w.heap.size + 1)) #[] #[]] }, W1, gf,
    #[.func (.yield (w.heap.size + 1)) #[] #[]] ++ lb, W1, ?_, ?_, ?_, ?_, fun _ => h1, ?_⟩
  · rw [← hW1, hrec]; exact run_enterLoop_outer _ _ _ _ _
  · simp only [resolve, hg]
    simp [go_sem]
  · intro f' hf'; simp [Target.leads] at hf'; subst hf'; exact hFg
  · simp [invoke, go_sem, eg]
  · refine (hseq (w.heap.size + 1)
      (fun k W => I k W ∧ W.heap[w.heap.size + 1]? = some (.loop (rec .ready none)) ∧ W.heap[w.heap.size]? = some (.deferred (some [])))
      (fun W => ∃ c, Ix c W ∧ W.heap[w.heap.size + 1]? = some (.loop (rec .done (some c))) ∧ W.heap[w.heap.size]? = some (.deferred (some [])))
      W1 ?_ ?_ ?_ (hL _ _ hL0 hc1) ⟨hI _ _ _ h0 (hc1.x _), hL1, hK1⟩).mono ?_
    · rintro k A B ⟨hi, hl, hk⟩ hb
      rw [hs1] at hb
      exact ⟨hI _ _ _ hi (hb.mono (by omega)), (hb.1.block _ (by omega)).trans hl, (hb.1.block _ (by omega)).trans hk⟩
    · rintro A B ⟨c, hi, hl, hk⟩ hb
      rw [hs1] at hb
      exact ⟨c, hIx _ _ _ hi (hb.mono (by omega)), (hb.1.block _ (by omega)).trans hl, (hb.1.block _ (by omega)).trans hk⟩
    · -- one round
      rintro k vs W hkN ⟨hi, hl, hk⟩ hlw hgw
      rw [hs1] at hgw
      have hlt : w.heap.size + 1 < W.heap.size := (Array.getElem?_eq_some_iff.1 hl).1
      have hy := run_yield (P := P) (args := vs) hl (by rw [hrec]; exact hps _ k vs W hgw)
      rw [hrec] at hy
      refine ⟨fn, _, assign, body, hy, roundIn_of_wpIn hfn (wpIn_mono (hround _ k vs W (by omega) hkN hi hlw hgw) ?_)⟩
      rintro e a₁ W2 hp
      cases e with
      | normal =>
        obtain ⟨hb2, hbody⟩ := hp
        have hl2 : W2.heap[w.heap.size + 1]? = some (.loop (rec .ready none)) := (hb2.block _ hlt).trans hl
        have hk2 : W2.heap[w.heap.size]? = some (.deferred (some [])) := (hb2.block _ (by omega)).trans hk
        refine ⟨_, run_beginRound hl2 (by rw [hrec]), ?_⟩
        have hl3 : (W2.putObj (w.heap.size + 1) (.loop { rec .ready none with state := .busy })).heap[w.heap.size + 1]? = some (.loop { rec .ready none with state := .busy }) := World.putObj_heap_same (Array.getElem?_eq_some_iff.1 hl2).1
        have hk3 : (W2.putObj (w.heap.size + 1) (.loop { rec .ready none with state := .busy })).heap[w.heap.size]? = some (.deferred (some [])) := (World.putObj_heap_other (by omega)).trans hk2
        refine wpIn_mono (hbody _ (calm_put _ hl2 rfl (by omega))) ?_
        have fin : ∀ (jump : Option Code) (W3 : World), NC w.heap.size (W2.putObj (w.heap.size + 1) (.loop { rec .ready none with state := .busy })) W3 →
            (Instr.endRound (w.heap.size + 1) jump).run P W3 = .ok (.bool jump.isNone) (W3.putObj (w.heap.size + 1) (.loop (rec (if jump.isNone then .ready else .done) jump))) ∧
            Calm w.heap.size W3 (W3.putObj (w.heap.size + 1) (.loop (rec (if jump.isNone then .ready else .done) jump))) ∧
            (W3.putObj (w.heap.size + 1) (.loop (rec (if jump.isNone then .ready else .done) jump))).heap[w.heap.size + 1]? = some (.loop (rec (if jump.isNone then .ready else .done) jump)) ∧
            (W3.putObj (w.heap.size + 1) (.loop (rec (if jump.isNone then .ready else .done) jump))).heap[w.heap.size]? = some (.deferred (some [])) := fun jump W3 hnc => by
          have hl4 := hnc.2 _ _ (by omega) hl3
          have := run_endRound (P := P) jump hl4
          rw [hrec] at this ⊢
          exact ⟨this, calm_put _ hl4 rfl (by omega), World.putObj_heap_same (Array.getElem?_eq_some_iff.1 hl4).1, (World.putObj_heap_other (by omega)).trans (hnc.2 _ _ (Nat.le_refl _) hk3)⟩
        rintro e a3 W3 hp
        cases e with
        | normal =>
          obtain ⟨hnc, hi3, hl3'⟩ := hp
          obtain ⟨hr, hc4, hl4, hk4⟩ := fin none W3 hnc
          refine ⟨_, _, hr, .inl ⟨rfl, ⟨hI _ _ _ hi3 (hc4.x _), hl4, hk4⟩, hL _ _ hl3' hc4, ?_⟩⟩
          exact (((nc_of_below hb2).trans (nc_put _ _ (by rw [hs1]; omega))).trans (hnc.mono (by rw [hs1]; omega))).trans (nc_put _ _ (by rw [hs1]; omega))
        | ret =>
          obtain ⟨hnc, hi3⟩ := hp
          obtain ⟨hr, hc4, hl4, hk4⟩ := fin (some .ret) W3 hnc
          exact ⟨_, _, hr, .inr ⟨rfl, ⟨.ret, hIx _ _ _ hi3 (hc4.x _), hl4, hk4⟩, (((nc_of_below hb2).trans (nc_put _ _ (by rw [hs1]; omega))).trans (hnc.mono (by rw [hs1]; omega))).trans (nc_put _ _ (by rw [hs1]; omega))⟩⟩
        | exit id =>
          obtain ⟨hnc, hi3⟩ := hp
          obtain ⟨hr, hc4, hl4, hk4⟩ := fin (some (.exit id)) W3 hnc
          exact ⟨_, _, hr, .inr ⟨rfl, ⟨.exit id, hIx _ _ _ hi3 (hc4.x _), hl4, hk4⟩, (((nc_of_below hb2).trans (nc_put _ _ (by rw [hs1]; omega))).trans (hnc.mono (by rw [hs1]; omega))).trans (nc_put _ _ (by rw [hs1]; omega))⟩⟩
        | goto t =>
          obtain ⟨hnc, hi3⟩ := hp
          obtain ⟨hr, hc4, hl4, hk4⟩ := fin (some (.goto t)) W3 hnc
          exact ⟨_, _, hr, .inr ⟨rfl, ⟨.goto t, hIx _ _ _ hi3 (hc4.x _), hl4, hk4⟩, (((nc_of_below hb2).trans (nc_put _ _ (by rw [hs1]; omega))).trans (hnc.mono (by rw [hs1]; omega))).trans (nc_put _ _ (by rw [hs1]; omega))⟩⟩
        | panic ch => exact hp.elim
        | outgrown => exact hp.elim
      | ret => exact hp.elim
      | exit id => exact hp.elim
      | goto t => exact hp.elim
      | panic ch => exact hp.elim
      | outgrown => exact hp.elim
    · -- behind the iterator
      rintro e W2 ⟨⟨v, rfl⟩, (⟨hi, hl, hk⟩ | ⟨c, hi, hl, hk⟩)⟩
      · exact ⟨none, _, by have := run_endLoop (P := P) hl (by rw [hrec]; simp); rw [hrec] at this; exact this, hdone _ _ (Nat.le_refl _) (hI _ _ _ hi ((calm_put _ hl rfl (by omega)).x _)) ((World.putObj_heap_other (by omega)).trans hk)⟩
      · exact ⟨some c, _, by have := run_endLoop (P := P) hl (by rw [hrec]; simp); rw [hrec] at this; exact this, hstop _ c _ (Nat.le_refl _) (hIx _ _ _ hi ((calm_put _ hl rfl (by omega)).x _)) ((World.putObj_heap_other (by omega)).trans hk)⟩
end Go.Proofs.YtfengddpfeneiaaGreat
