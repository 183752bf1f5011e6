/-
  Walks, first part: small functions of tow, and slices.IndexFunc and ContainsFunc at three element types.
  Walks, second part: what checks a streamer, bounds of offsets, waters and speeds.
  Walks, third part: a step of offsets (tow.Step) and what it calls.
  Walks, fourth part: each at bounds; the bounds after a step, and of bends.
  Two lists of numbers alike.
  The chapter's own streamer and bounds.
  Walks, fifth part: the bounds after a step.
  Walks, sixth part: pulls.
  Walks, seventh part: the bounds step by step, and in which steps a streamer may be beyond its limits.
  Walks, eighth part: strain, Watch, Keeps.
  A map from pairs of numbers to truth values that the call made itself.
  Walks, ninth part: begun, watched, keeps, Watch, Keeps.
  Walks, tenth part: keeps, Watch, Keeps.
  Walks, eleventh part: Fastest.
  Walks, twelfth part: Fastest.
  Walks, thirteenth part: Fastest, where plans are looked for.
-/
import Derived.Test.YtfengddpfeneiaaGreatI1
import Derived.Test.YtfengddpfeneiaaGreatBase
import Derived.Shelf.Abstract
import Derived.Deep.QuietTactic
import Derived.BigQuiet
import Derived.Deep.RegionHeld3
import Derived.StillTailTactics
import Derived.BigRegionIn
import Derived.Maps.Own
import Derived.Maps.Views
import Derived.WideKeyPair
import Derived.Carry
import Derived.Deep.RegionWith
import Derived.Deep.AppendLies
import Derived.WalkMore
namespace Go.Proofs.YtfengddpfeneiaaGreat
open Go.RowKit Go.Shelf

end Go.Proofs.YtfengddpfeneiaaGreat
namespace Go.Proofs.YtfengddpfeneiaaGreat
open Go.RowKit Go.Shelf

set_option maxHeartbeats 400000 in
theorem within_any (n lo hi : Int) (w : World) :
    Calls Tryz.prog 75 #[.int .i64 n, .int .i64 lo, .int .i64 hi] w fun e w' => e = .returned (.bool (decide (lo ≤ n ∧ n ≤ hi))) ∧ w = w' := by
  by_cases h : lo ≤ n
  · go_enter Tryz.func75, Tryz.ntmps75
    go_wp2
    go_ret
    simp [h]
  · go_enter Tryz.func75, Tryz.ntmps75
    go_wp2
    go_ret
    simp; omega
/-! speeds -/
def okTo (l : List Sec) (k : Nat) : Prop := (l.take k).all okSec = true
end Go.Proofs.YtfengddpfeneiaaGreat
namespace Go.Proofs.YtfengddpfeneiaaGreat
open Go.RowKit Go.Shelf

theorem ok_sec {s : Strm} (h : okStrm s = true) {i : Nat} (hi : i < s.secs.length) : okSec (s.sec i) = true := by
  unfold okStrm at h
  simp only [Bool.and_eq_true, List.all_eq_true] at h
  refine h.2 _ ?_
  unfold Strm.sec
  rw [List.getD_eq_getElem?_getD, List.getElem?_eq_getElem hi]
  exact List.getElem_mem hi
theorem sec_at (s : Strm) {i : Nat} (hi : i < s.secs.length) : s.secs[i]? = some (s.sec i) := by
  unfold Strm.sec
  rw [List.getD_eq_getElem?_getD, List.getElem?_eq_getElem hi]; rfl
theorem ok_head {s : Strm} (h : okStrm s = true) : headOk s := by
  unfold okStrm at h
  simp only [Bool.and_eq_true, decide_eq_true_eq] at h
  exact h.1

theorem eachL_length {α β : Type} (f : Nat → α → α → β) (h : α) (l : List α) : (eachL f h l).length = l.length := by simp [eachL]
theorem eachL_get {α β : Type} (f : Nat → α → α → β) (h : α) (l : List α) {i : Nat} (hi : i < l.length) : (eachL f h l)[i]? = some (f i (l.getD i h) (prev h l i)) := by
  simp [eachL, hi]
/-- What is handed to each is at every index and every own and former value, in every later world, a number. -/
def FnInt (g : Nat) (lb : Array Value) (f : Nat → Int → Int → Int) (l : List Int) (h : Int) (w : World) : Prop :=
  ∀ (W : World) (i : Nat), Below w.heap.size w W → i < l.length → Calls Tryz.prog g (#[.int .i64 (i : Int), .int .i64 (l.getD i h), .int .i64 (prev h l i)] ++ lb) W fun e w' => e = .returned (.int .i64 (f i (l.getD i h) (prev h l i))) ∧ Below W.heap.size W w'
end Go.Proofs.YtfengddpfeneiaaGreat
namespace Go.Proofs.YtfengddpfeneiaaGreat
open Go.RowKit Go.Shelf

/-- What is handed to each is at every index, and every own and former bound, in every later world, a bound. -/
def FnBnd (g : Nat) (lb : Array Value) (f : Nat → Bnd → Bnd → Bnd) (l : List Bnd) (h : Bnd) (w : World) : Prop :=
  ∀ (W : World) (i : Nat), Below w.heap.size w W → i < l.length → Calls Tryz.prog g (#[.int .i64 (i : Int), .agg #[.int .i64 (l.getD i h).lo, .int .i64 (l.getD i h).hi], .agg #[.int .i64 (prev h l i).lo, .int .i64 (prev h l i).hi]] ++ lb) W fun e w' =>
    e = .returned (.agg #[.int .i64 (f i (l.getD i h) (prev h l i)).lo, .int .i64 (f i (l.getD i h) (prev h l i)).hi]) ∧ Below W.heap.size W w'
/-- A row of bounds of the call's own. -/
def OwnBnds (w0 : World) (n : Nat) (L : List Bnd) (e : Ending) (w' : World) : Prop :=
  ∃ O co, e = .returned (.slice O n co) ∧ w'.ownsRow w0.heap.size 40 2 (.slice O n co) n (L.flatMap Bnd.cells) ∧ SlAt w' w0.heap.size 2 Bnd.cells O n co L ∧ Below w0.heap.size w0 w'
def okB (b : Bnd) : Prop := -16384 ≤ b.lo ∧ b.lo ≤ b.hi ∧ b.hi ≤ 16384
end Go.Proofs.YtfengddpfeneiaaGreat
namespace Go.Proofs.YtfengddpfeneiaaGreat
open Go.RowKit Go.Shelf
end Go.Proofs.YtfengddpfeneiaaGreat
namespace Go.Proofs.YtfengddpfeneiaaGreat
open Go.RowKit Go.Shelf
def cable0 : Strm := { head := 0, secs := [⟨100, 32, 0, 2, 5000⟩, ⟨100, 16, 5, 3, 3000⟩], lane := ⟨-20, 20⟩, bend := 30 }
end Go.Proofs.YtfengddpfeneiaaGreat
namespace Go.Proofs.YtfengddpfeneiaaGreat
open Go.RowKit Go.Shelf

/-! enclosed$1: both ends of the bound after a step -/
/-- What checked hands back: the streamer, or a zero one and the error. -/
def RetLine (s : Strm) (A : Option Addr) (n c : Nat) (er : Int) (w : World) (e : Ending) (w' : World) : Prop :=
  (er = 0 → e = .returned (.tuple #[.agg #[.int .i64 s.head, .slice A n c, .int .i64 s.lane.lo, .int .i64 s.lane.hi, .int .i64 s.bend], .int .i64 0])) ∧
  (er ≠ 0 → e = .returned (.tuple #[.agg #[.int .i64 0, .slice none 0 0, .int .i64 0, .int .i64 0, .int .i64 0], .int .i64 er])) ∧ Below w.heap.size w w'
end Go.Proofs.YtfengddpfeneiaaGreat
namespace Go.Proofs.YtfengddpfeneiaaGreat
open Go.RowKit Go.Shelf

def mixTo (a b : List Bnd) (k : Nat) : List Bnd := a.take k ++ b.drop k
def pullZ (sl fa : Int) (secs : List Sec) (bd : List Bnd) : List Bnd := (List.range bd.length).map fun i => sumB ((List.zipWith (ownPull sl fa) secs bd).drop i)
theorem sumB_step {Z : List Bnd} {k : Nat} {z : Bnd} (h : Z[k]? = some z) : sumB (Z.drop k) = ⟨(sumB (Z.drop (k + 1))).lo + z.lo, (sumB (Z.drop (k + 1))).hi + z.hi⟩ := by
  have hk : k < Z.length := (List.getElem?_eq_some_iff.1 h).1
  have e : Z[k] = z := (List.getElem?_eq_some_iff.1 h).2
  rw [List.drop_eq_getElem_cons hk, e]; rfl
def anyTo (p : Nat → Bool) (k : Nat) : Bool := (List.range k).any p
end Go.Proofs.YtfengddpfeneiaaGreat
namespace Go.Proofs.YtfengddpfeneiaaGreat
open Go.RowKit Go.Shelf
attribute [local go_sem] Oper.semAt_some

theorem ediv_mono {a b : Int} (h : a ≤ b) : a / 64 ≤ b / 64 := Int.ediv_le_ediv (by omega) h
theorem eased_mono {s : Strm} {x : Sec} (hh : headOk s) (hx : okSec x = true) {o1 o2 b1 b2 d1 d2 : Int} (ho : o1 ≤ o2) (hb : b1 ≤ b2) (hd : d1 ≤ d2) : eased s x o1 b1 d1 ≤ eased s x o2 b2 d2 := by
  obtain ⟨k0, k1, k2, k3, k4, k5, k6, k7, k8, k9⟩ := of_decide_eq_true hx
  obtain ⟨g0, g1, g2, g3, g4, g5, g6, g7, g8⟩ := hh
  have m1 : (64 - x.fol) * o1 ≤ (64 - x.fol) * o2 := Int.mul_le_mul_of_nonneg_left ho (by omega)
  have m2 : x.fol * b1 ≤ x.fol * b2 := Int.mul_le_mul_of_nonneg_left hb k2
  have m3 : ((64 - x.fol) * o1 + x.fol * b1) / 64 ≤ ((64 - x.fol) * o2 + x.fol * b2) / 64 := ediv_mono (by omega)
  simp only [eased]
  generalize ((64 - x.fol) * o1 + x.fol * b1) / 64 = q1 at *
  generalize ((64 - x.fol) * o2 + x.fol * b2) / 64 = q2 at *
  repeat' split
  all_goals omega
theorem encAt_len {s : Strm} {bs : List Bnd} {l : List Wat} {n : Nat} (hb : bs.length = n) : ∀ k, (encAt s bs l k).length = n
  | 0 => hb
  | k + 1 => by rw [encAt, encL, eachL_length]; exact encAt_len hb k

/-- What steps hands on in a round: the index, and the bounds after this step. -/
def StepsG (s : Strm) (bs : List Bnd) (l : List Wat) (n gl k : Nat) (vs : Array Value) (W : World) : Prop :=
  ∃ O co, vs = #[.int .i64 k, .slice O n co] ∧ SlAt W (gl + 1) 2 Bnd.cells O n co (encAt s bs l (k + 1))
end Go.Proofs.YtfengddpfeneiaaGreat
namespace Go.Proofs.YtfengddpfeneiaaGreat
set_option linter.unusedSimpArgs false
set_option linter.unusedVariables false
open Go.RowKit Go.Shelf
attribute [local go_sem] Oper.semAt_some

/-! strain -/
section
variable {s : Strm} {A O D V : Option Addr} {n c co nd cd nv cv : Nat} {w W W' : World} {xb xp : Int}
end
end Go.Proofs.YtfengddpfeneiaaGreat
namespace Go.Proofs.YtfengddpfeneiaaGreat
set_option linter.unusedSimpArgs false
set_option linter.unusedVariables false
open Go.RowKit Go.Shelf

theorem arr2 : WideMaps.ArrKey Tryz.prog 64 3 2 := ⟨by kernel_rfl, by kernel_rfl, by kernel_rfl, by kernel_rfl⟩
theorem keyed2 : Maps.Keyed Tryz.prog 64 := Maps.Keyed.of_law arr2.law
def kl (i k : Int) : Lit := .string (keyBytes [.int .i64 i, .int .i64 k])
theorem underInt : Tryz.prog.underlying 3 = some (.int .i64) := by kernel_rfl
def small (i : Int) : Prop := -1000000 ≤ i ∧ i ≤ 1000000
theorem small_wf {i : Int} (h : small i) : (Lit.int .i64 i).wf = true := by
  obtain ⟨h1, h2⟩ := h
  simp only [Lit.wf, IntKind.min, IntKind.max, IntKind.signed, IntKind.bits, Bool.and_eq_true, decide_eq_true_eq, if_true]
  omega
theorem types_pos : ∃ m, Tryz.prog.types.size = m + 1 := ⟨Tryz.prog.types.size - 1, by
  have h : (0 < Tryz.prog.types.size) = True := eq_true (of_decide_eq_true (by kernel_rfl))
  have := of_eq_true h
  omega⟩
theorem keyOf_kl {i k : Int} (hi : small i) (hk : small k) : keyOf Tryz.prog 64 (.agg #[.int .i64 i, .int .i64 k]) = some (kl i k) :=
  WideMaps.keyOf_pair arr2 underInt types_pos (small_wf hi) (small_wf hk)
theorem kl_inj {i k i' k' : Int} (hi : small i) (hk : small k) (hi' : small i') (hk' : small k') (h : kl i k = kl i' k') : i = i' ∧ k = k' := by
  have := keyed2.inj (keyOf_kl hi hk) (h ▸ keyOf_kl hi' hk')
  simpa using this
theorem kl_key (i k : Int) : WideAt.IsKeyLit (kl i k) := trivial

/-! The map at block b says f. -/
def KMap (w : World) (b n : Nat) (f : Nat → Nat → Bool) : Prop :=
  ∃ D : DataW Unit, w.ownsMap Tryz.prog 64 (plainElem Tryz.prog 4) b n D ∧ Maps.IsMap D ∧ ∀ i k : Nat, i ≤ 1000000 → k ≤ 1000000 → D.atKey (kl i k) (.lit (.bool false)) = .lit (.bool (f i k))
theorem small_nat {i : Nat} (h : i ≤ 1000000) : small (i : Int) := ⟨by omega, by omega⟩

theorem KMap.lt {w : World} {b n : Nat} {f : Nat → Nat → Bool} (h : KMap w b n f) : b < w.heap.size := let ⟨_, h, _⟩ := h; h.lt
theorem KMap.block {w w' : World} {b n : Nat} {f : Nat → Nat → Bool} (h : KMap w b n f) (e : w'.heap[b]? = w.heap[b]?) : KMap w' b n f := by
  obtain ⟨D, ⟨es, clock, hb, r⟩, h2⟩ := h
  exact ⟨D, ⟨es, clock, e.trans hb, r⟩, h2⟩
theorem KMap.below {w w' : World} {b n : Nat} {f : Nat → Nat → Bool} (h : KMap w b n f) (hb : Below w.heap.size w w') : KMap w' b n f := h.block (hb.block b h.lt)
theorem KMap.put {w w0' : World} {b n : Nat} {f : Nat → Nat → Bool} {i k : Nat} {x : Bool} (h : KMap w b n f) (hi : i ≤ 1000000) (hk : k ≤ 1000000) :
    ∃ D : DataW Unit, w.ownsMap Tryz.prog 64 (plainElem Tryz.prog 4) b n D ∧ ∀ w', w'.ownsMap Tryz.prog 64 (plainElem Tryz.prog 4) b (n + 1) (D.put (kl i k) (.lit (.bool x))) → KMap w' b (n + 1) (fun i' k' => if i' = i ∧ k' = k then x else f i' k') := by
  obtain ⟨D, ho, hm, hat⟩ := h
  refine ⟨D, ho, fun w' ho' => ⟨_, ho', ?_, fun i' k' hi' hk' => ?_⟩⟩
  · obtain ⟨es, rfl⟩ := hm
    exact ⟨_, rfl⟩
  · by_cases e : i' = i ∧ k' = k
    · obtain ⟨rfl, rfl⟩ := e
      rw [Maps.atKey_put_same hm (kl_key _ _)]
      simp
    · rw [Maps.atKey_put_other (fun h => e (by
        obtain ⟨h1, h2⟩ := kl_inj (small_nat hi') (small_nat hk') (small_nat hi) (small_nat hk) h
        exact ⟨by omega, by omega⟩))]
      simp only [if_neg e]
      exact hat i' k' hi' hk'
end Go.Proofs.YtfengddpfeneiaaGreat
namespace Go.Proofs.YtfengddpfeneiaaGreat
open Go.RowKit Go.Shelf

def set6 (w : World) (g : Nat) (v0 v1 v2 v3 v4 v5 : Value) : World :=
  (((((w.setCell ⟨g, 0, none⟩ v0).setCell ⟨g, 1, none⟩ v1).setCell ⟨g, 2, none⟩ v2).setCell ⟨g, 3, none⟩ v3).setCell ⟨g, 4, none⟩ v4).setCell ⟨g, 5, none⟩ v5
theorem Blk.set6 {w : World} {g : Nat} {t : TypeId} {a0 a1 a2 a3 a4 a5 : Value} (h : Blk w g t #[a0, a1, a2, a3, a4, a5]) (v0 v1 v2 v3 v4 v5 : Value) : Blk (set6 w g v0 v1 v2 v3 v4 v5) g t #[v0, v1, v2, v3, v4, v5] :=
  (((((h.set_ 0 v0).set_ 1 v1).set_ 2 v2).set_ 3 v3).set_ 4 v4).set_ 5 v5
def RetTow (s : Strm) (A O : Option Addr) (n c no co : Nat) (eb er : Int) (w : World) (e : Ending) (w' : World) : Prop :=
  (eb = 0 → e = .returned (.tuple #[.agg #[.int .i64 s.head, .slice A n c, .int .i64 s.lane.lo, .int .i64 s.lane.hi, .int .i64 s.bend, .slice O no co], .int .i64 er])) ∧
  (eb ≠ 0 → e = .returned (.tuple #[.agg #[.int .i64 0, .slice none 0 0, .int .i64 0, .int .i64 0, .int .i64 0, .slice none 0 0], .int .i64 er])) ∧ Below w.heap.size w w'
/-! watched -/
end Go.Proofs.YtfengddpfeneiaaGreat
namespace Go.Proofs.YtfengddpfeneiaaGreat
open Go.RowKit Go.Shelf

end Go.Proofs.YtfengddpfeneiaaGreat
namespace Go.Proofs.YtfengddpfeneiaaGreat
set_option linter.unusedSimpArgs false
set_option linter.unusedVariables false
open Go.RowKit Go.Shelf

/-! What is kept in a step with a choice; the best choice of a step; the plan. -/
def keptN (s : Strm) (bs : List Bnd) (l : List Wat) (ch : List Int) (i k : Nat) : Bool := !bentN s bs l i && !pulledS s (encAt s bs l (i + 1)) (ch.getD k 0) (l.getD i wat0).alo
def pickTo (f : Nat → Bool) (ch : List Int) : Nat → Int
  | 0 => -1
  | k + 1 => if f k = true then (if pickTo f ch k < 0 then (k : Int) else if ch.getD (pickTo f ch k).toNat 0 < ch.getD k 0 then (k : Int) else pickTo f ch k) else pickTo f ch k
def runPlan (p : Nat → Int) (ch : List Int) (nd : Nat) : Nat → List Int → Int → Bool × List Int × Int
  | 0, plan, way => (true, plan, way)
  | r + 1, plan, way => if p (nd - (r + 1)) < 0 then (false, plan, way) else runPlan p ch nd r (plan ++ [p (nd - (r + 1))]) (way + ch.getD (p (nd - (r + 1))).toNat 0)
def fastR (s : Strm) (bs : List Bnd) (l : List Wat) (ch : List Int) : List Int × Int × Int :=
  if errBW s bs l ≠ 0 then ([], 0, errBW s bs l)
  else if ¬ (1 ≤ l.length ∧ l.length ≤ 6 ∧ 1 ≤ ch.length ∧ ch.length ≤ 4) then ([], 0, 3)
  else if okSpeeds ch = false then ([], 0, 34)
  else
    let r := runPlan (fun i => pickTo (keptN s bs l ch i) ch ch.length) ch l.length l.length [] 0
    if r.1 = true then (r.2.1, r.2.2, 0) else ([], 0, 4)

end Go.Proofs.YtfengddpfeneiaaGreat
namespace Go.Proofs.YtfengddpfeneiaaGreat
set_option linter.unusedSimpArgs false
set_option linter.unusedVariables false
open Go.RowKit Go.Shelf
attribute [local go_sem] Oper.semAt_some

/-! What the map says when step k has come as far as choice j. -/
def fmap (kept : Nat → Nat → Bool) (nc k j : Nat) : Nat → Nat → Bool := fun i q => decide ((i < k ∧ q < nc) ∨ (i = k ∧ q < j)) && kept i q
def RetFast (r : List Int × Int × Int) (w : World) (e : Ending) (w' : World) : Prop :=
  ∃ P pn pc, e = .returned (.tuple #[.slice P pn pc, .int .i64 r.2.1, .int .i64 r.2.2]) ∧ SlAt w' w.heap.size 1 ivs P pn pc r.1 ∧ Below w.heap.size w w'
section
variable {s : Strm} {A O D C : Option Addr} {n c co nd cd nc cc gt g12 bm : Nat} {w W W' : World}
end
end Go.Proofs.YtfengddpfeneiaaGreat
namespace Go.Proofs.YtfengddpfeneiaaGreat
open Go.RowKit Go.Shelf
attribute [local go_sem] Oper.semAt_some
end Go.Proofs.YtfengddpfeneiaaGreat
