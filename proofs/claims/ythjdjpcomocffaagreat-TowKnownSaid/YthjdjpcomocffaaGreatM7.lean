/-
  Plain laws of nodes that lie straight, and of turned regions. Nothing of the program stands here.
-/
import Derived.Test.YthjdjpcomocffaaGreatM3
import Derived.Test.YthjdjpcomocffaaGreatM4
import Derived.Test.YthjdjpcomocffaaGreatN5
import Derived.Test.YthjdjpcomocffaaGreatN4
namespace Go.Proofs.YthjdjpcomocffaaGreat
open Go.RowKit Go.Shelf
set_option linter.unusedSimpArgs false
set_option linter.unusedVariables false

theorem rootS_up {n : Int} (h : 0 ≤ n) : n < (rootS n + 1) * (rootS n + 1) := by
  obtain ⟨m, rfl⟩ : ∃ m : Nat, n = m := ⟨n.toNat, by omega⟩
  unfold rootS
  rw [Int.toNat_natCast]
  exact_mod_cast (isq_spec m).2
theorem lt_of_sq {a b : Int} (ha : 0 ≤ b) (h : a * a < b * b) : a < b := by
  rcases Int.lt_or_le a b with h1 | h1
  · exact h1
  · have := Int.mul_le_mul h1 h1 ha (by omega); omega
theorem rootS_mono {a b : Int} (h0 : 0 ≤ a) (h : a ≤ b) : rootS a ≤ rootS b := by
  have h1 := (rootS_bd h0).2
  have h2 := rootS_up (show 0 ≤ b by omega)
  have h3 := (rootS_bd (show 0 ≤ b by omega)).1
  have := lt_of_sq (a := rootS a) (b := rootS b + 1) (by omega) (by omega)
  omega
/-- How far a section that lies straight reaches back, rounded up or down. -/
def backS (up : Bool) (n m : Int) : Int :=
  if up = true ∧ rootS (n * n - m * m) * rootS (n * n - m * m) < n * n - m * m then rootS (n * n - m * m) + 1 else rootS (n * n - m * m)
theorem backS_bd {up : Bool} {n m h : Int} (h1 : 0 ≤ m) (h2 : m ≤ n) (h3 : m ≤ h) : shortS n h ≤ backS up n m ∧ backS up n m ≤ n ∧ 0 ≤ backS up n m := by
  have q1 : 0 ≤ n * n - m * m := by have := sq_mono h1 h2; omega
  have q2 : 0 ≤ m * m := Int.mul_nonneg h1 h1
  obtain ⟨r1, r2⟩ := rootS_bd q1
  have q3 : min h n * min h n ≤ n * n := sq_mono (by omega) (by omega)
  have q4 : m * m ≤ min h n * min h n := sq_mono h1 (by omega)
  have q5 : shortS n h ≤ rootS (n * n - m * m) := rootS_mono (by omega) (by omega)
  unfold backS
  generalize rootS (n * n - m * m) = r at *
  split
  · rename_i hu
    have := lt_of_sq (a := r) (b := n) (by omega) (by omega)
    omega
  · have := lt_of_sq (a := r) (b := n + 1) (by omega) (by
      have : (n + 1) * (n + 1) = n * n + 2 * n + 1 := by simp only [Int.add_mul, Int.mul_add]; omega
      omega)
    omega
/-- Where the nodes are if all sections lie straight. -/
def laidX (s : Strm) (o : List Int) (up : Bool) : Nat → Int
  | 0 => 0
  | k + 1 => laidX s o up k - backS up (s.sec k).len (bendAt s o k)
def laidTo (s : Strm) (o : List Int) (up : Bool) (k : Nat) : List Pnt := (List.range k).map fun i => ⟨laidX s o up (i + 1), o.getD i s.head⟩
def laidL (s : Strm) (o : List Int) (up : Bool) : List Pnt := laidTo s o up o.length
def laidB (s : Strm) (o : List Int) : Bool := (List.range o.length).all fun i => decide (bendAt s o i ≤ (s.sec i).len)
theorem laidTo_succ (s : Strm) (o : List Int) (up : Bool) (k : Nat) : laidTo s o up (k + 1) = laidTo s o up k ++ [⟨laidX s o up (k + 1), o.getD k s.head⟩] := by
  unfold laidTo; rw [List.range_succ, List.map_append]; rfl
theorem laidTo_len (s : Strm) (o : List Int) (up : Bool) (k : Nat) : (laidTo s o up k).length = k := by simp [laidTo]
theorem laidL_at (s : Strm) (o : List Int) (up : Bool) {i : Nat} (h : i < o.length) : (laidL s o up)[i]? = some ⟨laidX s o up (i + 1), o.getD i s.head⟩ := by
  unfold laidL laidTo; rw [List.getElem?_map, List.getElem?_range h]; rfl
theorem laidB_at {s : Strm} {o : List Int} (h : laidB s o = true) {i : Nat} (hi : i < o.length) : bendAt s o i ≤ (s.sec i).len :=
  of_decide_eq_true (List.all_eq_true.1 h i (List.mem_range.2 hi))
theorem laidB_no {s : Strm} {o : List Int} {i : Nat} (hi : i < o.length) (h : (s.sec i).len < bendAt s o i) : laidB s o = false := by
  cases hb : laidB s o with
  | false => rfl
  | true => have := laidB_at hb hi; omega
theorem laidB_yes {s : Strm} {o : List Int} (h : ∀ i, i < o.length → bendAt s o i ≤ (s.sec i).len) : laidB s o = true :=
  List.all_eq_true.2 fun i hi => decide_eq_true (h i (List.mem_range.1 hi))
theorem bend_nonneg (s : Strm) (o : List Int) (i : Nat) : 0 ≤ bendAt s o i := by unfold bendAt magS; omega
theorem laidX_bd {s : Strm} {o : List Int} {bs : List Bnd} (up : Bool) (hs : okStrm s = true) (hL : Lies o bs) (hb : laidB s o = true) : ∀ k, k ≤ o.length → nearS s bs k ≤ -laidX s o up k ∧ -laidX s o up k ≤ farS s k
  | 0, _ => by simp [nearS, laidX, farS]
  | k + 1, h => by
    have ih := laidX_bd up hs hL hb k (by omega)
    have h1 := (hL.bend (s := s) (i := k) (by have := hL.1; omega)).2
    have := backS_bd (up := up) (h := ((bendL s bs).getD k ⟨0, 0⟩).hi) (bend_nonneg s o k) (laidB_at hb (by omega)) h1
    show nearS s bs k + shortS _ _ ≤ -(laidX s o up k - backS up _ _) ∧ -(laidX s o up k - backS up _ _) ≤ farS s k + _
    omega
theorem laidX_neg {s : Strm} {o : List Int} (up : Bool) (hs : okStrm s = true) (hn : o.length = s.secs.length) (hb : laidB s o = true) : ∀ k, k ≤ o.length → 0 ≤ -laidX s o up k ∧ -laidX s o up k ≤ 1000 * k
  | 0, _ => by simp [laidX]
  | k + 1, h => by
    have ih := laidX_neg up hs hn hb k (by omega)
    have hl := sec_len hs k
    have := backS_bd (up := up) (h := bendAt s o k) (bend_nonneg s o k) (laidB_at hb (by omega)) (Int.le_refl _)
    show 0 ≤ -(laidX s o up k - backS up _ _) ∧ -(laidX s o up k - backS up _ _) ≤ 1000 * ((k + 1 : Nat) : Int)
    omega
theorem okReg_all {f n : Int} {b : Bnd} (h1 : 0 ≤ n) (h2 : n ≤ f) (h3 : f ≤ 8000) (h4 : okBnd 16384 b = true) : okReg { allReg with x := ⟨-f, -n⟩, y := b } = true := by
  obtain ⟨b1, b2, b3⟩ := of_decide_eq_true h4
  rw [okReg_iff]
  simp only [allReg]
  omega
/-- Whatever the offsets within the bounds are, each node lies in its region. -/
theorem laid_node {s : Strm} {o : List Int} {bs : List Bnd} (up : Bool) (hs : okStrm s = true) (hb : okOffs s bs = true) (hL : Lies o bs) (hd : laidB s o = true) {i : Nat} (hi : i < o.length) :
    okReg (nodeR s bs i) = true ∧ okPnt ⟨laidX s o up (i + 1), o.getD i s.head⟩ = true ∧ inR ⟨laidX s o up (i + 1), o.getD i s.head⟩ (nodeR s bs i) := by
  have hlen : bs.length = s.secs.length := okOffs_len hb
  have hn8 : s.secs.length ≤ 8 := by have := ok_head hs; unfold headOk at this; omega
  have hx := laidX_bd up hs hL hd (i + 1) (by omega)
  have hfar := farS_bd hs (i + 1)
  have hnear := nearS_bd hs (okOffs_all hb) (i + 1)
  have hy := hL.getD (i := i) (by have := hL.1; omega) s.head ⟨0, 0⟩
  have hyb := of_decide_eq_true (List.all_eq_true.1 (okOffs_all hb) _ (List.mem_of_getElem? (getD_get (⟨0, 0⟩ : Bnd) (l := bs) (i := i) (by have := hL.1; omega))))
  have hi8 : i < 8 := by have := hL.1; omega
  have hok : okReg { allReg with x := ⟨-farS s (i + 1), -nearS s bs (i + 1)⟩, y := bs.getD i ⟨0, 0⟩ } = true := okReg_all (by omega) (by omega) (by omega) (decide_eq_true hyb)
  unfold nodeR
  generalize laidX s o up (i + 1) = X at *
  generalize o.getD i s.head = Y at *
  have hin : inR ⟨X, Y⟩ { allReg with x := ⟨-farS s (i + 1), -nearS s bs (i + 1)⟩, y := bs.getD i ⟨0, 0⟩ } := by
    unfold inR inB allReg
    dsimp only
    omega
  obtain ⟨t, e, ht⟩ := tight_has hin
  rw [tightR, if_pos hok, e]
  exact ⟨tight_ok hok e, decide_eq_true (by dsimp only; omega), ht⟩
theorem nodesL_at (s : Strm) (bs : List Bnd) {i : Nat} (h : i < bs.length) : (nodesL s bs)[i]? = some (nodeR s bs i) := by
  unfold nodesL; rw [List.getElem?_map, List.getElem?_range h]; rfl
/-- What region.Has says. -/
def hasS (r : Reg) (p : Pnt) : Bool := decide (zipR cutB r (ofP p) = ofP p)
def hasR (r : Reg) (p : Pnt) : Bool × Int := if okReg r = true then (if okPnt p = true then (hasS r p, 0) else (false, 10)) else (false, 11)
theorem hasS_iff {r : Reg} {p : Pnt} : hasS r p = true ↔ inR p r := by
  unfold hasS
  rw [decide_eq_true_eq]
  unfold zipR cutB ofP still inR inB
  simp only [Reg.mk.injEq, Bnd.mk.injEq]
  omega
theorem hasR_of {r : Reg} {p : Pnt} (h1 : okReg r = true) (h2 : okPnt p = true) (h3 : inR p r) : hasR r p = (true, 0) := by
  rw [hasR, if_pos h1, if_pos h2, hasS_iff.2 h3]
/-- Each bound of a tight region is met by one of its places. -/
structure TightR (r : Reg) : Prop where
  xlo : ∃ p, inR p r ∧ p.x = r.x.lo
  xhi : ∃ p, inR p r ∧ p.x = r.x.hi
  ylo : ∃ p, inR p r ∧ p.y = r.y.lo
  yhi : ∃ p, inR p r ∧ p.y = r.y.hi
  slo : ∃ p, inR p r ∧ p.x + p.y = r.s.lo
  shi : ∃ p, inR p r ∧ p.x + p.y = r.s.hi
  dlo : ∃ p, inR p r ∧ p.x - p.y = r.d.lo
  dhi : ∃ p, inR p r ∧ p.x - p.y = r.d.hi
theorem tight_tight {r t : Reg} (h : tightO r = some t) : TightR t := by
  have T := tight_hull h
  have f : ∀ {p : Pnt}, p ∈ ptsL r → inR p t := fun hp => tight_in h (ptsL_iff.1 hp).1
  obtain ⟨p1, m1, e1⟩ := T.xlo
  obtain ⟨p2, m2, e2⟩ := T.xhi
  obtain ⟨p3, m3, e3⟩ := T.ylo
  obtain ⟨p4, m4, e4⟩ := T.yhi
  obtain ⟨p5, m5, e5⟩ := T.slo
  obtain ⟨p6, m6, e6⟩ := T.shi
  obtain ⟨p7, m7, e7⟩ := T.dlo
  obtain ⟨p8, m8, e8⟩ := T.dhi
  exact ⟨⟨_, f m1, e1⟩, ⟨_, f m2, e2⟩, ⟨_, f m3, e3⟩, ⟨_, f m4, e4⟩, ⟨_, f m5, e5⟩, ⟨_, f m6, e6⟩, ⟨_, f m7, e7⟩, ⟨_, f m8, e8⟩⟩
theorem tight_self {t : Reg} (h : TightR t) : tightO t = some t := by
  obtain ⟨p1, i1, e1⟩ := h.xlo
  obtain ⟨p2, i2, e2⟩ := h.xhi
  obtain ⟨p3, i3, e3⟩ := h.ylo
  obtain ⟨p4, i4, e4⟩ := h.yhi
  obtain ⟨p5, i5, e5⟩ := h.slo
  obtain ⟨p6, i6, e6⟩ := h.shi
  obtain ⟨p7, i7, e7⟩ := h.dlo
  obtain ⟨p8, i8, e8⟩ := h.dhi
  obtain ⟨u, hu, -⟩ := tight_has i1
  have U := tight_tight hu
  have b1 := tight_in hu i1
  have b2 := tight_in hu i2
  have b3 := tight_in hu i3
  have b4 := tight_in hu i4
  have b5 := tight_in hu i5
  have b6 := tight_in hu i6
  have b7 := tight_in hu i7
  have b8 := tight_in hu i8
  obtain ⟨q1, j1, f1⟩ := U.xlo
  obtain ⟨q2, j2, f2⟩ := U.xhi
  obtain ⟨q3, j3, f3⟩ := U.ylo
  obtain ⟨q4, j4, f4⟩ := U.yhi
  obtain ⟨q5, j5, f5⟩ := U.slo
  obtain ⟨q6, j6, f6⟩ := U.shi
  obtain ⟨q7, j7, f7⟩ := U.dlo
  obtain ⟨q8, j8, f8⟩ := U.dhi
  replace j1 := tight_of hu j1
  replace j2 := tight_of hu j2
  replace j3 := tight_of hu j3
  replace j4 := tight_of hu j4
  replace j5 := tight_of hu j5
  replace j6 := tight_of hu j6
  replace j7 := tight_of hu j7
  replace j8 := tight_of hu j8
  rw [hu]
  have e : u = t := by
    obtain ⟨⟨ux1, ux2⟩, ⟨uy1, uy2⟩, ⟨us1, us2⟩, ⟨ud1, ud2⟩⟩ := u
    obtain ⟨⟨tx1, tx2⟩, ⟨ty1, ty2⟩, ⟨ts1, ts2⟩, ⟨td1, td2⟩⟩ := t
    unfold inR inB at *
    simp only [Reg.mk.injEq, Bnd.mk.injEq]
    dsimp only at *
    have k1 : ux1 = tx1 := by omega
    have k2 : ux2 = tx2 := by omega
    have k3 : uy1 = ty1 := by omega
    have k4 : uy2 = ty2 := by omega
    have k5 : us1 = ts1 := by omega
    have k6 : us2 = ts2 := by omega
    have k7 : ud1 = td1 := by omega
    have k8 : ud2 = td2 := by omega
    exact ⟨⟨k1, k2⟩, ⟨k3, k4⟩, ⟨k5, k6⟩, ⟨k7, k8⟩⟩
  rw [e]
/-! The least and the greatest p x + q y. -/
structure ExtS (r : Reg) (p q : Int) (b : Bnd) : Prop where
  lo : ∃ v, inR v r ∧ p * v.x + q * v.y = b.lo
  hi : ∃ v, inR v r ∧ p * v.x + q * v.y = b.hi
  has : ∀ v, inR v r → inB (p * v.x + q * v.y) b
def ExtL (L : List RRow) (p q : Int) (b : Bnd) : Prop :=
  (∃ w ∈ L, p * w.x + q * w.fr = b.lo ∨ p * w.x + q * w.to = b.lo) ∧ (∃ w ∈ L, p * w.x + q * w.fr = b.hi ∨ p * w.x + q * w.to = b.hi) ∧ ∀ w ∈ L, inB (p * w.x + q * w.fr) b ∧ inB (p * w.x + q * w.to) b
theorem extL_add {L : List RRow} {p q : Int} {b : Bnd} (w : RRow) (h : ExtL L p q b) (c : Bnd) (hc : addE (some b) (p * w.x + q * w.fr, p * w.x + q * w.to) = some c) : ExtL (L ++ [w]) p q c := by
  obtain ⟨⟨w1, m1, e1⟩, ⟨w2, m2, e2⟩, h3⟩ := h
  have hm : w ∈ L ++ [w] := by simp
  simp only [addE, Option.some.injEq] at hc
  subst hc
  generalize ha : p * w.x + q * w.fr = a at *
  generalize hb : p * w.x + q * w.to = a' at *
  refine ⟨?_, ?_, fun v hv => ?_⟩
  · by_cases k1 : b.lo ≤ a ∧ b.lo ≤ a'
    · exact ⟨w1, List.mem_append_left _ m1, by dsimp only; omega⟩
    · exact ⟨w, hm, by dsimp only; omega⟩
  · by_cases k1 : a ≤ b.hi ∧ a' ≤ b.hi
    · exact ⟨w2, List.mem_append_left _ m2, by dsimp only; omega⟩
    · exact ⟨w, hm, by dsimp only; omega⟩
  · rcases List.mem_append.1 hv with hv | hv
    · have := h3 v hv
      unfold inB at *
      dsimp only
      omega
    · simp at hv; subst hv
      unfold inB
      dsimp only
      omega
theorem extL_one (w : RRow) (p q : Int) (c : Bnd) (hc : addE none (p * w.x + q * w.fr, p * w.x + q * w.to) = some c) : ExtL [w] p q c := by
  have hm : w ∈ [w] := by simp
  simp only [addE, Option.some.injEq] at hc
  subst hc
  refine ⟨⟨w, hm, by dsimp only; omega⟩, ⟨w, hm, by dsimp only; omega⟩, fun v hv => ?_⟩
  simp at hv; subst hv
  unfold inB
  dsimp only
  omega
theorem extL_fold (p q : Int) : ∀ (M L : List RRow) (b : Bnd), ExtL L p q b → ∃ c, M.foldl (fun o w => addE o (p * w.x + q * w.fr, p * w.x + q * w.to)) (some b) = some c ∧ ExtL (L ++ M) p q c
  | [], L, b, h => ⟨b, rfl, by rw [List.append_nil]; exact h⟩
  | w :: M, L, b, h => by
    obtain ⟨c, e, k⟩ := extL_fold p q M (L ++ [w]) _ (extL_add w h _ rfl)
    exact ⟨c, e, by simpa using k⟩
theorem extL_of (p q : Int) : ∀ L : List RRow, L ≠ [] → ∃ c, extO L p q = some c ∧ ExtL L p q c
  | [], h => absurd rfl h
  | w :: M, _ => by
    obtain ⟨c, e, k⟩ := extL_fold p q M [w] _ (extL_one w p q _ rfl)
    exact ⟨c, e, k⟩
theorem row_lin {q a b y : Int} (h1 : a ≤ y) (h2 : y ≤ b) : min (q * a) (q * b) ≤ q * y ∧ q * y ≤ max (q * a) (q * b) := by
  rcases Int.le_total 0 q with h | h
  · have := Int.mul_le_mul_of_nonneg_left h1 h
    have := Int.mul_le_mul_of_nonneg_left h2 h
    omega
  · have := Int.mul_le_mul_of_nonpos_left h h1
    have := Int.mul_le_mul_of_nonpos_left h h2
    omega
theorem row_of {r : Reg} {v : Pnt} (h : inR v r) : rowB r v.x ∈ rowsL r ∧ (rowB r v.x).fr ≤ v.y ∧ v.y ≤ (rowB r v.x).to := by
  have hle : (rowB r v.x).fr ≤ v.y ∧ v.y ≤ (rowB r v.x).to := by
    unfold inR inB at h
    unfold rowB
    dsimp only
    omega
  exact ⟨rowsL_iff.2 ⟨h.1, rfl, by omega⟩, hle.1, hle.2⟩
theorem row_ends {r : Reg} {w : RRow} (h : w ∈ rowsL r) : inR ⟨w.x, w.fr⟩ r ∧ inR ⟨w.x, w.to⟩ r := by
  obtain ⟨h1, h2, h3⟩ := rowsL_iff.1 h
  rw [h2] at h3
  have e1 : w.fr = (rowB r w.x).fr := by rw [← h2]
  have e2 : w.to = (rowB r w.x).to := by rw [← h2]
  rw [e1, e2]
  unfold inR inB at *
  unfold rowB at *
  dsimp only at *
  omega
theorem ext_spec {r : Reg} (p q : Int) (h : ∃ v, inR v r) : ExtS r p q (extB r p q) := by
  obtain ⟨v0, h0⟩ := h
  obtain ⟨c, e, ⟨w1, m1, e1⟩, ⟨w2, m2, e2⟩, h3⟩ := extL_of p q (rowsL r) (List.ne_nil_of_mem (row_of h0).1)
  unfold extB
  rw [e]
  show ExtS r p q c
  refine ⟨?_, ?_, fun v hv => ?_⟩
  · obtain ⟨a, b⟩ := row_ends m1
    rcases e1 with e1 | e1
    · exact ⟨_, a, e1⟩
    · exact ⟨_, b, e1⟩
  · obtain ⟨a, b⟩ := row_ends m2
    rcases e2 with e2 | e2
    · exact ⟨_, a, e2⟩
    · exact ⟨_, b, e2⟩
  · obtain ⟨hm, a, b⟩ := row_of hv
    have k := h3 _ hm
    have l := row_lin (q := q) a b
    have ex : (rowB r v.x).x = v.x := rfl
    rw [ex] at k
    unfold inB at *
    omega
theorem floorS_one (a : Int) : floorS a 1 = a := by unfold floorS; omega
theorem ceilS_one (a : Int) : ceilS a 1 = a := by unfold ceilS; omega
theorem turnB_one (r : Reg) (p q : Int) : turnB r 1 p q = extB r p q := by unfold turnB; rw [floorS_one, ceilS_one]
theorem bnd_ext {a b : Bnd} (h1 : a.lo = b.lo) (h2 : a.hi = b.hi) : a = b := by cases a; cases b; simp_all
theorem ext_eq {r : Reg} {p q : Int} {c : Bnd} (h1 : ∃ v, inR v r ∧ p * v.x + q * v.y = c.lo) (h2 : ∃ v, inR v r ∧ p * v.x + q * v.y = c.hi) (h3 : ∀ v, inR v r → inB (p * v.x + q * v.y) c) : extB r p q = c := by
  obtain ⟨v1, i1, e1⟩ := h1
  obtain ⟨v2, i2, e2⟩ := h2
  have E := ext_spec p q ⟨v1, i1⟩
  obtain ⟨v3, i3, e3⟩ := E.lo
  obtain ⟨v4, i4, e4⟩ := E.hi
  have a1 := E.has _ i1
  have a2 := E.has _ i2
  have a3 := h3 _ i3
  have a4 := h3 _ i4
  unfold inB at *
  exact bnd_ext (by omega) (by omega)
def negB (b : Bnd) : Bnd := ⟨-b.hi, -b.lo⟩
def negR (r : Reg) : Reg := ⟨negB r.x, negB r.y, negB r.s, negB r.d⟩
theorem turned_none {t : Reg} (h : TightR t) : turnedS t ⟨1, 0, 1⟩ = t := by
  unfold turnedS
  dsimp only
  rw [turnB_one, turnB_one, turnB_one, turnB_one]
  obtain ⟨p1, i1, e1⟩ := h.xlo
  obtain ⟨p2, i2, e2⟩ := h.xhi
  obtain ⟨p3, i3, e3⟩ := h.ylo
  obtain ⟨p4, i4, e4⟩ := h.yhi
  obtain ⟨p5, i5, e5⟩ := h.slo
  obtain ⟨p6, i6, e6⟩ := h.shi
  obtain ⟨p7, i7, e7⟩ := h.dlo
  obtain ⟨p8, i8, e8⟩ := h.dhi
  have x : extB t 1 (-0) = t.x := ext_eq ⟨p1, i1, by omega⟩ ⟨p2, i2, by omega⟩ fun v hv => by unfold inR inB at *; omega
  have y : extB t 0 1 = t.y := ext_eq ⟨p3, i3, by omega⟩ ⟨p4, i4, by omega⟩ fun v hv => by unfold inR inB at *; omega
  have s : extB t (1 + 0) (1 - 0) = t.s := ext_eq ⟨p5, i5, by omega⟩ ⟨p6, i6, by omega⟩ fun v hv => by unfold inR inB at *; omega
  have d : extB t (1 - 0) (-0 - 1) = t.d := ext_eq ⟨p7, i7, by omega⟩ ⟨p8, i8, by omega⟩ fun v hv => by unfold inR inB at *; omega
  rw [x, y, s, d]
theorem turned_half {t : Reg} (h : TightR t) : turnedS t ⟨-1, 0, 1⟩ = negR t := by
  unfold turnedS
  dsimp only
  rw [turnB_one, turnB_one, turnB_one, turnB_one]
  obtain ⟨p1, i1, e1⟩ := h.xlo
  obtain ⟨p2, i2, e2⟩ := h.xhi
  obtain ⟨p3, i3, e3⟩ := h.ylo
  obtain ⟨p4, i4, e4⟩ := h.yhi
  obtain ⟨p5, i5, e5⟩ := h.slo
  obtain ⟨p6, i6, e6⟩ := h.shi
  obtain ⟨p7, i7, e7⟩ := h.dlo
  obtain ⟨p8, i8, e8⟩ := h.dhi
  unfold negR negB
  have x : extB t (-1) (-0) = ⟨-t.x.hi, -t.x.lo⟩ := ext_eq ⟨p2, i2, by dsimp only; omega⟩ ⟨p1, i1, by dsimp only; omega⟩ fun v hv => by unfold inR inB at *; dsimp only; omega
  have y : extB t 0 (-1) = ⟨-t.y.hi, -t.y.lo⟩ := ext_eq ⟨p4, i4, by dsimp only; omega⟩ ⟨p3, i3, by dsimp only; omega⟩ fun v hv => by unfold inR inB at *; dsimp only; omega
  have s : extB t (-1 + 0) (-1 - 0) = ⟨-t.s.hi, -t.s.lo⟩ := ext_eq ⟨p6, i6, by dsimp only; omega⟩ ⟨p5, i5, by dsimp only; omega⟩ fun v hv => by unfold inR inB at *; dsimp only; omega
  have d : extB t (-1 - 0) (-0 - -1) = ⟨-t.d.hi, -t.d.lo⟩ := ext_eq ⟨p8, i8, by dsimp only; omega⟩ ⟨p7, i7, by dsimp only; omega⟩ fun v hv => by unfold inR inB at *; dsimp only; omega
  rw [x, y, s, d]
theorem tight_neg {t : Reg} (h : TightR t) : TightR (negR t) := by
  obtain ⟨p1, i1, e1⟩ := h.xlo
  obtain ⟨p2, i2, e2⟩ := h.xhi
  obtain ⟨p3, i3, e3⟩ := h.ylo
  obtain ⟨p4, i4, e4⟩ := h.yhi
  obtain ⟨p5, i5, e5⟩ := h.slo
  obtain ⟨p6, i6, e6⟩ := h.shi
  obtain ⟨p7, i7, e7⟩ := h.dlo
  obtain ⟨p8, i8, e8⟩ := h.dhi
  have f : ∀ p : Pnt, inR p t → inR ⟨-p.x, -p.y⟩ (negR t) := fun p hp => by unfold inR inB negR negB at *; dsimp only; omega
  exact ⟨⟨_, f _ i2, by show -p2.x = -t.x.hi; omega⟩, ⟨_, f _ i1, by show -p1.x = -t.x.lo; omega⟩, ⟨_, f _ i4, by show -p4.y = -t.y.hi; omega⟩, ⟨_, f _ i3, by show -p3.y = -t.y.lo; omega⟩,
    ⟨_, f _ i6, by show -p6.x + -p6.y = -t.s.hi; omega⟩, ⟨_, f _ i5, by show -p5.x + -p5.y = -t.s.lo; omega⟩, ⟨_, f _ i8, by show -p8.x - -p8.y = -t.d.hi; omega⟩, ⟨_, f _ i7, by show -p7.x - -p7.y = -t.d.lo; omega⟩⟩
/-! Where the nodes are in the plane. -/
def placeR (ship : Pnt) (h : Hdg) (r : Reg) : Reg × Int := if inPlane (turnedS r h) = true then moveR (turnedS r h) ship else (noReg, 7)
def whereE (ship : Pnt) (h : Hdg) (L : List Reg) : Nat → Int
  | 0 => 0
  | k + 1 => if whereE ship h L k = 0 then (placeR ship h (L.getD k noReg)).2 else whereE ship h L k
def whereTo (ship : Pnt) (h : Hdg) (L : List Reg) (k : Nat) : List Reg := (List.range k).map fun i => (placeR ship h (L.getD i noReg)).1
def whereN (ship : Pnt) (h : Hdg) (L : List Reg) : List Reg × Int := if whereE ship h L L.length = 0 then (whereTo ship h L L.length, 0) else ([], whereE ship h L L.length)
def whereR (s : Strm) (bs : List Bnd) (ship : Pnt) (h : Hdg) : List Reg × Int :=
  if errB s bs = 0 then (if okPnt ship = true then (if okHdg h = true then whereN ship h (nodesL s bs) else ([], 35)) else ([], 10)) else ([], errB s bs)
theorem whereTo_succ (ship : Pnt) (h : Hdg) (L : List Reg) (k : Nat) : whereTo ship h L (k + 1) = whereTo ship h L k ++ [(placeR ship h (L.getD k noReg)).1] := by
  unfold whereTo; rw [List.range_succ, List.map_append]; rfl
theorem whereTo_len (ship : Pnt) (h : Hdg) (L : List Reg) (k : Nat) : (whereTo ship h L k).length = k := by simp [whereTo]
theorem whereTo_at (ship : Pnt) (h : Hdg) (L : List Reg) {k i : Nat} (hi : i < k) : (whereTo ship h L k)[i]? = some (placeR ship h (L.getD i noReg)).1 := by
  unfold whereTo; rw [List.getElem?_map, List.getElem?_range hi]; rfl
theorem whereE_zero {ship : Pnt} {h : Hdg} {L : List Reg} : ∀ n, whereE ship h L n = 0 ↔ ∀ k, k < n → (placeR ship h (L.getD k noReg)).2 = 0
  | 0 => by simp [whereE]
  | n + 1 => by
    have ih := whereE_zero (ship := ship) (h := h) (L := L) n
    rw [whereE]
    constructor
    · intro e k hk
      by_cases e0 : whereE ship h L n = 0
      · rw [if_pos e0] at e
        by_cases hkn : k < n
        · exact ih.1 e0 k hkn
        · obtain rfl : k = n := by omega
          exact e
      · rw [if_neg e0] at e; exact absurd e e0
    · intro H
      rw [if_pos (ih.2 fun k hk => H k (by omega))]
      exact H n (by omega)
theorem whereE_stop {ship : Pnt} {h : Hdg} {L : List Reg} {k : Nat} (h0 : whereE ship h L k = 0) (h1 : (placeR ship h (L.getD k noReg)).2 ≠ 0) : ∀ n, k < n → whereE ship h L n = (placeR ship h (L.getD k noReg)).2
  | 0, hn => absurd hn (Nat.not_lt_zero _)
  | n + 1, hn => by
    by_cases e : k = n
    · subst e; rw [whereE, if_pos h0]
    · have ih := whereE_stop h0 h1 n (by omega)
      rw [whereE, if_neg (by rw [ih]; exact h1), ih]
theorem moveR_tight {r : Reg} {b : Pnt} (h : TightR r) (ho : okReg r = true) (hb : okPnt b = true) : moveR r b = insideR (zipR plusB r (ofP b)) := by
  have := of_decide_eq_true hb
  rw [moveR, if_pos ho, if_pos (by omega), tight_self h]
theorem node_tight {s : Strm} {bs : List Bnd} (hs : okStrm s = true) (hb : okOffs s bs = true) {i : Nat} (hi : i < bs.length) : TightR (nodeR s bs i) ∧ okReg (nodeR s bs i) = true ∧ (-8000 ≤ (nodeR s bs i).x.lo ∧ (nodeR s bs i).x.hi ≤ 0 ∧ -16384 ≤ (nodeR s bs i).y.lo ∧ (nodeR s bs i).y.hi ≤ 16384) := by
  have hlen : bs.length = s.secs.length := okOffs_len hb
  have hn8 : s.secs.length ≤ 8 := by have := ok_head hs; unfold headOk at this; omega
  have hfar := farS_bd hs (i + 1)
  have hnear := nearS_bd hs (okOffs_all hb) (i + 1)
  have hnf : nearS s bs (i + 1) ≤ farS s (i + 1) := by
    have : ∀ k, nearS s bs k ≤ farS s k := fun k => by
      induction k with
      | zero => exact Int.le_refl _
      | succ k ih =>
        have hl := sec_len hs k
        have hm := bend_hi (s := s) (ok_head hs) (okOffs_all hb) k
        have h1 : min (((bendL s bs).getD k ⟨0, 0⟩).hi) (s.sec k).len * min (((bendL s bs).getD k ⟨0, 0⟩).hi) (s.sec k).len ≤ (s.sec k).len * (s.sec k).len := sq_mono (by omega) (by omega)
        have h0 : 0 ≤ min (((bendL s bs).getD k ⟨0, 0⟩).hi) (s.sec k).len * min (((bendL s bs).getD k ⟨0, 0⟩).hi) (s.sec k).len := Int.mul_nonneg (by omega) (by omega)
        have hr := rootS_bd (show 0 ≤ (s.sec k).len * (s.sec k).len - min (((bendL s bs).getD k ⟨0, 0⟩).hi) (s.sec k).len * min (((bendL s bs).getD k ⟨0, 0⟩).hi) (s.sec k).len by omega)
        have := lt_of_sq (a := shortS (s.sec k).len ((bendL s bs).getD k ⟨0, 0⟩).hi) (b := (s.sec k).len + 1) (by omega) (by
          have : ((s.sec k).len + 1) * ((s.sec k).len + 1) = (s.sec k).len * (s.sec k).len + 2 * (s.sec k).len + 1 := by simp only [Int.add_mul, Int.mul_add]; omega
          unfold shortS
          omega)
        show nearS s bs k + shortS _ _ ≤ farS s k + _
        omega
    exact this _
  have hbb := List.all_eq_true.1 (okOffs_all hb) _ (List.mem_of_getElem? (getD_get (⟨0, 0⟩ : Bnd) (l := bs) (i := i) hi))
  have hok : okReg { allReg with x := ⟨-farS s (i + 1), -nearS s bs (i + 1)⟩, y := bs.getD i ⟨0, 0⟩ } = true := okReg_all (by omega) hnf (by omega) hbb
  obtain ⟨b1, b2, b3⟩ := of_decide_eq_true hbb
  have hin : inR ⟨-farS s (i + 1), (bs.getD i ⟨0, 0⟩).lo⟩ { allReg with x := ⟨-farS s (i + 1), -nearS s bs (i + 1)⟩, y := bs.getD i ⟨0, 0⟩ } := by
    unfold inR inB allReg
    dsimp only
    omega
  obtain ⟨t, e, ht⟩ := tight_has hin
  unfold nodeR
  rw [tightR, if_pos hok, e]
  show TightR t ∧ okReg t = true ∧ _
  have T := tight_tight e
  refine ⟨T, tight_ok hok e, ?_⟩
  show -8000 ≤ t.x.lo ∧ t.x.hi ≤ 0 ∧ -16384 ≤ t.y.lo ∧ t.y.hi ≤ 16384
  obtain ⟨p1, i1, e1⟩ := T.xlo
  obtain ⟨p2, i2, e2⟩ := T.xhi
  obtain ⟨p3, i3, e3⟩ := T.ylo
  obtain ⟨p4, i4, e4⟩ := T.yhi
  replace i1 := tight_of e i1
  replace i2 := tight_of e i2
  replace i3 := tight_of e i3
  replace i4 := tight_of e i4
  unfold inR inB at i1 i2 i3 i4
  dsimp only at i1 i2 i3 i4
  omega
theorem node_none {s : Strm} {bs : List Bnd} (hs : okStrm s = true) (hb : okOffs s bs = true) {ship : Pnt} {i : Nat} (hi : i < bs.length) : placeR ship ⟨1, 0, 1⟩ (nodeR s bs i) = moveR (nodeR s bs i) ship := by
  obtain ⟨h1, h2, h3⟩ := node_tight hs hb hi
  unfold placeR
  rw [turned_none h1, if_pos]
  rw [okReg_iff] at h2
  unfold inPlane okBnd
  simp only [Bool.and_eq_true, decide_eq_true_eq]
  omega
theorem negR_ok {r : Reg} (h : okReg r = true) : okReg (negR r) = true := by
  rw [okReg_iff] at *
  unfold negR negB
  dsimp only
  omega
/-- By half a turn the nodes lie on the other side of the ship; or they are beyond the plane. -/
theorem node_half {s : Strm} {bs : List Bnd} (hs : okStrm s = true) (hb : okOffs s bs = true) {ship : Pnt} (hp : okPnt ship = true) {i : Nat} (hi : i < bs.length) :
    placeR ship ⟨-1, 0, 1⟩ (nodeR s bs i) = insideR (zipR plusB (negR (nodeR s bs i)) (ofP ship)) ∧ moveR (nodeR s bs i) ship = insideR (zipR plusB (nodeR s bs i) (ofP ship)) := by
  obtain ⟨h1, h2, h3⟩ := node_tight hs hb hi
  refine ⟨?_, moveR_tight h1 h2 hp⟩
  unfold placeR
  rw [turned_half h1, moveR_tight (tight_neg h1) (negR_ok h2) hp, if_pos]
  have := okReg_iff.1 (negR_ok h2)
  unfold inPlane okBnd
  simp only [Bool.and_eq_true, decide_eq_true_eq]
  omega
theorem insideR_vals (f : Reg) : insideR f = (f, 0) ∨ insideR f = (noReg, 7) := by
  unfold insideR; split
  · exact .inl rfl
  · exact .inr rfl
/-- What the law TowAhead says of the two lists. -/
theorem ahead {s : Strm} {bs : List Bnd} {ship : Pnt} (he : errB s bs = 0) (hp : okPnt ship = true) (h1 : whereE ship ⟨1, 0, 1⟩ (nodesL s bs) bs.length = 0) {i : Nat} (hi : i < bs.length) :
    (moveR (nodeR s bs i) ship).2 = 0 ∧ (placeR ship ⟨1, 0, 1⟩ (nodeR s bs i)).1 = (moveR (nodeR s bs i) ship).1
    ∧ ((placeR ship ⟨-1, 0, 1⟩ (nodeR s bs i)).2 = 0 → (moveR (nodeR s bs i) ship).1.x.lo - ship.x = ship.x - (placeR ship ⟨-1, 0, 1⟩ (nodeR s bs i)).1.x.hi ∧ (moveR (nodeR s bs i) ship).1.y.hi - ship.y = ship.y - (placeR ship ⟨-1, 0, 1⟩ (nodeR s bs i)).1.y.lo) := by
  obtain ⟨hs, hb⟩ := errB_zero he
  have hg : (nodesL s bs).getD i noReg = nodeR s bs i := getD_of _ (nodesL_at s bs hi)
  have h2 := (whereE_zero bs.length).1 h1 i hi
  rw [hg] at h2
  have e1 := node_none hs hb (ship := ship) hi
  obtain ⟨e2, e3⟩ := node_half hs hb hp hi
  rw [e1] at h2
  refine ⟨h2, by rw [e1], fun h => ?_⟩
  rw [e2] at h ⊢
  rw [e3] at h2 ⊢
  rcases insideR_vals (zipR plusB (negR (nodeR s bs i)) (ofP ship)) with q | q
  · rcases insideR_vals (zipR plusB (nodeR s bs i) (ofP ship)) with z | z
    · rw [q, z]
      unfold zipR plusB negR negB ofP still
      dsimp only
      omega
    · rw [z] at h2; simp at h2
  · rw [q] at h; simp at h
theorem whereE_half {s : Strm} {bs : List Bnd} {ship : Pnt} (he : errB s bs = 0) (hp : okPnt ship = true) : ∀ n, n ≤ bs.length → whereE ship ⟨-1, 0, 1⟩ (nodesL s bs) n = 0 ∨ whereE ship ⟨-1, 0, 1⟩ (nodesL s bs) n = 7
  | 0, _ => .inl rfl
  | n + 1, h => by
    obtain ⟨hs, hb⟩ := errB_zero he
    have hg : (nodesL s bs).getD n noReg = nodeR s bs n := getD_of _ (nodesL_at s bs h)
    rw [whereE]
    rcases whereE_half he hp n (by omega) with e | e
    · rw [e, if_pos rfl, hg, (node_half hs hb hp h).1]
      rcases insideR_vals (zipR plusB (negR (nodeR s bs n)) (ofP ship)) with q | q
      · rw [q]; exact .inl rfl
      · rw [q]; exact .inr rfl
    · rw [e, if_neg (by omega)]; exact .inr rfl
theorem okHdg_iff {h : Hdg} : okHdg h = true ↔ 1 ≤ h.c ∧ h.c ≤ 1000 ∧ -h.c ≤ h.p ∧ h.p ≤ h.c ∧ -h.c ≤ h.q ∧ h.q ≤ h.c ∧ h.p * h.p + h.q * h.q = h.c * h.c := by unfold okHdg; rw [decide_eq_true_eq]
/-- What a bound that is turned says of a place. -/
theorem turnB_has {r : Reg} {c p q : Int} (hc : 1 ≤ c) {v : Pnt} (hv : inR v r) : c * (turnB r c p q).lo ≤ p * v.x + q * v.y ∧ p * v.x + q * v.y ≤ c * (turnB r c p q).hi := by
  have E := (ext_spec p q ⟨v, hv⟩).has _ hv
  unfold inB at E
  unfold turnB floorS ceilS
  dsimp only
  generalize p * v.x + q * v.y = n at *
  generalize (extB r p q).lo = lo at *
  generalize (extB r p q).hi = hi at *
  have h1 := Int.mul_ediv_self_le (x := lo) (k := c) (by omega)
  have h2 := Int.mul_ediv_self_le (x := -hi) (k := c) (by omega)
  rw [Int.mul_neg]
  omega
theorem mul_le_of {c a b : Int} (hc : 1 ≤ c) (h : c * a ≤ c * b) : a ≤ b := by
  rcases Int.lt_or_le b a with h1 | h1
  · have := Int.mul_lt_mul_of_pos_left h1 (show 0 < c by omega); omega
  · exact h1
theorem mul_lt_of {c a b : Int} (hc : 1 ≤ c) (h : c * a < c * b) : a < b := by
  rcases Int.lt_or_le a b with h1 | h1
  · exact h1
  · have := Int.mul_le_mul_of_nonneg_left h1 (show 0 ≤ c by omega); omega
/-- The bounds are the outermost whole numbers: each is met within one. -/
theorem turnB_met {r : Reg} {c p q : Int} (hc : 1 ≤ c) (hr : ∃ v, inR v r) : (∃ v, inR v r ∧ p * v.x + q * v.y < c * ((turnB r c p q).lo + 1)) ∧ (∃ v, inR v r ∧ c * ((turnB r c p q).hi - 1) < p * v.x + q * v.y) := by
  have E := ext_spec p q hr
  obtain ⟨v1, i1, e1⟩ := E.lo
  obtain ⟨v2, i2, e2⟩ := E.hi
  refine ⟨⟨v1, i1, ?_⟩, ⟨v2, i2, ?_⟩⟩
  · rw [e1]
    unfold turnB floorS
    dsimp only
    have := Int.lt_mul_ediv_self_add (x := (extB r p q).lo) (k := c) (by omega)
    rw [Int.mul_add]; omega
  · rw [e2]
    unfold turnB ceilS
    dsimp only
    have := Int.lt_mul_ediv_self_add (x := -(extB r p q).hi) (k := c) (by omega)
    rw [Int.mul_sub, Int.mul_neg]; omega
/-- No place is turned to the middle between four. -/
theorem no_middle {p q c x y m X Y : Int} (h : p * p + q * q = c * c) (h1 : p * x - q * y = c * X + m) (h2 : q * x + p * y = c * Y + m) (h3 : c = 2 * m) (hm : m ≠ 0) : False := by
  have e : 2 * (m * m) * (2 * (x * x + y * y) - 2 * (X * X + Y * Y) - 2 * (X + Y) - 1) = 0 := by grind
  rcases Int.mul_eq_zero.1 e with e | e
  · rcases Int.mul_eq_zero.1 e with e | e
    · omega
    · rcases Int.mul_eq_zero.1 e with e | e <;> exact hm e
  · generalize x * x + y * y = a at e
    generalize X * X + Y * Y = b at e
    omega
/-- On a side of each place that is turned there is a place of the turned region, nearer than one. -/
theorem turned_near {r : Reg} {h : Hdg} (hh : okHdg h = true) {v : Pnt} (hv : inR v r) :
    ∃ u : Pnt, inR u (turnedS r h) ∧ (∃ a b : Int, h.c * u.x = h.p * v.x - h.q * v.y + a ∧ h.c * u.y = h.q * v.x + h.p * v.y + b ∧ a.natAbs + b.natAbs < h.c) := by
  obtain ⟨c1, c2, p1, p2, q1, q2, hn⟩ := okHdg_iff.1 hh
  have B1 := turnB_has (p := h.p) (q := -h.q) c1 hv
  have B2 := turnB_has (p := h.q) (q := h.p) c1 hv
  have B3 := turnB_has (p := h.p + h.q) (q := h.p - h.q) c1 hv
  have B4 := turnB_has (p := h.p - h.q) (q := -h.q - h.p) c1 hv
  unfold inR turnedS
  dsimp only
  generalize turnB r h.c h.p (-h.q) = X at *
  generalize turnB r h.c h.q h.p = Y at *
  generalize turnB r h.c (h.p + h.q) (h.p - h.q) = S at *
  generalize turnB r h.c (h.p - h.q) (-h.q - h.p) = D at *
  have e1 : h.p * v.x + -h.q * v.y = h.p * v.x - h.q * v.y := by grind
  have e3 : (h.p + h.q) * v.x + (h.p - h.q) * v.y = (h.p * v.x - h.q * v.y) + (h.q * v.x + h.p * v.y) := by grind
  have e4 : (h.p - h.q) * v.x + (-h.q - h.p) * v.y = (h.p * v.x - h.q * v.y) - (h.q * v.x + h.p * v.y) := by grind
  rw [e1] at B1
  rw [e3] at B3
  rw [e4] at B4
  have hmid := fun m X Y => no_middle (x := v.x) (y := v.y) (m := m) (X := X) (Y := Y) hn
  generalize h.p * v.x - h.q * v.y = m at *
  generalize h.q * v.x + h.p * v.y = n at *
  generalize h.c = c at *
  have d1 := Int.mul_ediv_add_emod m c
  have d2 := Int.mul_ediv_add_emod n c
  have r1 := Int.emod_nonneg m (show c ≠ 0 by omega)
  have r2 := Int.emod_nonneg n (show c ≠ 0 by omega)
  have r3 := Int.emod_lt_of_pos m (show 0 < c by omega)
  have r4 := Int.emod_lt_of_pos n (show 0 < c by omega)
  have hm2 := hmid (m % c) (m / c) (n / c)
  generalize m / c = X0 at *
  generalize n / c = Y0 at *
  generalize m % c = rx at *
  generalize n % c = ry at *
  have lo : ∀ {l k t : Int}, c * l ≤ t → t < c * (k + 1) → l ≤ k := fun h1 h2 => by have := mul_lt_of c1 (Int.lt_of_le_of_lt h1 h2); omega
  have hi : ∀ {l k t : Int}, t ≤ c * l → c * (k - 1) < t → k ≤ l := fun h1 h2 => by have := mul_lt_of c1 (Int.lt_of_lt_of_le h2 h1); omega
  obtain ⟨x1, x2⟩ := B1
  obtain ⟨y1, y2⟩ := B2
  obtain ⟨s1, s2⟩ := B3
  obtain ⟨t1, t2⟩ := B4
  have E : ∀ a b : Int, c * (a + b) = c * a + c * b := fun a b => Int.mul_add _ _ _
  have E1 : c * 1 = c := Int.mul_one c
  have F : ∀ a b : Int, c * (a - b) = c * a - c * b := fun a b => Int.mul_sub _ _ _
  have fin : ∀ P Q A B : Int, c * P = m + A → c * Q = n + B → A.natAbs + B.natAbs < c →
      ∃ u : Pnt, (inB u.x X ∧ inB u.y Y ∧ inB (u.x + u.y) S ∧ inB (u.x - u.y) D) ∧ ∃ a b : Int, c * u.x = m + a ∧ c * u.y = n + b ∧ a.natAbs + b.natAbs < c := by
    intro P Q A B hP hQ hAB
    refine ⟨⟨P, Q⟩, ⟨⟨lo x1 ?_, hi x2 ?_⟩, ⟨lo y1 ?_, hi y2 ?_⟩, ⟨lo s1 ?_, hi s2 ?_⟩, ⟨lo t1 ?_, hi t2 ?_⟩⟩, A, B, hP, hQ, hAB⟩
    all_goals (simp only [E, F, E1]; omega)
  by_cases k1 : rx + ry < c
  · exact fin X0 Y0 (-rx) (-ry) (by omega) (by omega) (by omega)
  · by_cases k2 : ry < rx
    · exact fin (X0 + 1) Y0 (c - rx) (-ry) (by rw [E, E1]; omega) (by omega) (by omega)
    · by_cases k3 : rx < ry
      · exact fin X0 (Y0 + 1) (-rx) (c - ry) (by omega) (by rw [E, E1]; omega) (by omega)
      · obtain rfl : rx = ry := by omega
        by_cases k4 : c = 2 * rx
        · exact (hm2 d1.symm d2.symm k4 (by omega)).elim
        · exact fin (X0 + 1) (Y0 + 1) (c - rx) (c - rx) (by rw [E, E1]; omega) (by rw [E, E1]; omega) (by omega)
/-- A tight region's rows all have places. -/
theorem tight_row {r : Reg} (h : TightR r) {x : Int} (h1 : r.x.lo ≤ x) (h2 : x ≤ r.x.hi) : (rowB r x).fr ≤ (rowB r x).to := by
  obtain ⟨p1, i1, e1⟩ := h.xlo
  obtain ⟨p2, i2, e2⟩ := h.xhi
  unfold inR inB at i1 i2
  unfold rowB
  dsimp only
  omega
/-- The place that two numbers choose. -/
def chosenP (t : Reg) (a b : Int) : Pnt :=
  let x := t.x.lo + restS a (t.x.hi - t.x.lo + 1)
  ⟨x, (rowB t x).fr + restS b ((rowB t x).to - (rowB t x).fr + 1)⟩
theorem chosen_in {t : Reg} (h : TightR t) (a b : Int) : inR (chosenP t a b) t := by
  obtain ⟨p1, i1, e1⟩ := h.xlo
  obtain ⟨p2, i2, e2⟩ := h.xhi
  have hx := restS_bd a (many := t.x.hi - t.x.lo + 1) (by unfold inR inB at i1 i2; omega)
  unfold chosenP
  dsimp only
  generalize restS a (t.x.hi - t.x.lo + 1) = k at *
  have hr := tight_row h (x := t.x.lo + k) (by omega) (by omega)
  have hy := restS_bd b (many := (rowB t (t.x.lo + k)).to - (rowB t (t.x.lo + k)).fr + 1) (by omega)
  generalize restS b _ = l at *
  unfold inR inB
  dsimp only
  unfold rowB at *
  dsimp only at *
  omega
/-- The turned region is a region with places. -/
theorem turned_ok {r : Reg} {h : Hdg} (hh : okHdg h = true) (hr : ∃ v, inR v r) (hp : inPlane (turnedS r h) = true) : okReg (turnedS r h) = true := by
  obtain ⟨c1, c2, p1, p2, q1, q2, hn⟩ := okHdg_iff.1 hh
  obtain ⟨v0, h0⟩ := hr
  obtain ⟨u, hu, -⟩ := turned_near hh h0
  obtain ⟨⟨v3, i3, e3⟩, ⟨v4, i4, e4⟩⟩ := turnB_met (r := r) (p := h.p + h.q) (q := h.p - h.q) c1 ⟨v0, h0⟩
  obtain ⟨⟨v5, i5, e5⟩, ⟨v6, i6, e6⟩⟩ := turnB_met (r := r) (p := h.p - h.q) (q := -h.q - h.p) c1 ⟨v0, h0⟩
  have A3 := turnB_has (p := h.p) (q := -h.q) c1 i3
  have B3 := turnB_has (p := h.q) (q := h.p) c1 i3
  have A4 := turnB_has (p := h.p) (q := -h.q) c1 i4
  have B4 := turnB_has (p := h.q) (q := h.p) c1 i4
  have A5 := turnB_has (p := h.p) (q := -h.q) c1 i5
  have B5 := turnB_has (p := h.q) (q := h.p) c1 i5
  have A6 := turnB_has (p := h.p) (q := -h.q) c1 i6
  have B6 := turnB_has (p := h.q) (q := h.p) c1 i6
  unfold inPlane okBnd at hp
  simp only [Bool.and_eq_true, decide_eq_true_eq] at hp
  rw [okReg_iff]
  unfold inR inB at hu
  unfold turnedS at *
  dsimp only at *
  have sE : ∀ v : Pnt, (h.p + h.q) * v.x + (h.p - h.q) * v.y = (h.p * v.x + -h.q * v.y) + (h.q * v.x + h.p * v.y) := fun v => by grind
  have dE : ∀ v : Pnt, (h.p - h.q) * v.x + (-h.q - h.p) * v.y = (h.p * v.x + -h.q * v.y) - (h.q * v.x + h.p * v.y) := fun v => by grind
  rw [sE] at e3 e4
  rw [dE] at e5 e6
  generalize turnB r h.c h.p (-h.q) = X at *
  generalize turnB r h.c h.q h.p = Y at *
  generalize turnB r h.c (h.p + h.q) (h.p - h.q) = S at *
  generalize turnB r h.c (h.p - h.q) (-h.q - h.p) = D at *
  have l3 : X.lo + Y.lo < S.lo + 1 := mul_lt_of c1 (by rw [Int.mul_add]; omega)
  have l4 : S.hi - 1 < X.hi + Y.hi := mul_lt_of c1 (by rw [Int.mul_add]; omega)
  have l5 : X.lo - Y.hi < D.lo + 1 := mul_lt_of c1 (by rw [Int.mul_sub]; omega)
  have l6 : D.hi - 1 < X.hi - Y.lo := mul_lt_of c1 (by rw [Int.mul_sub h.c X.hi Y.lo]; omega)
  omega
theorem inv_ok {h : Hdg} (hh : okHdg h = true) : okHdg ⟨h.p, -h.q, h.c⟩ = true := by
  obtain ⟨c1, c2, p1, p2, q1, q2, hn⟩ := okHdg_iff.1 hh
  rw [okHdg_iff]
  have : h.p * h.p + -h.q * -h.q = h.c * h.c := by grind
  exact ⟨c1, c2, p1, p2, by dsimp only; omega, by dsimp only; omega, this⟩
theorem back_x {p q c x y ux uy a b wx a' : Int} (h : p*p+q*q=c*c) (h1 : c*ux = p*x - q*y + a) (h2 : c*uy = q*x+p*y+b) (h3 : c*wx = p*ux - -q*uy + a') : c*(c*wx - c*x - a') = p*a+q*b := by
  have e1 : c * (p * ux - -q * uy + a' - c * x - a') = p * (c * ux) + q * (c * uy) - (c * c) * x := by clear h h1 h2 h3; grind
  rw [h3, e1, h1, h2, ← h]
  clear h h1 h2 h3 e1
  grind
theorem back_y {p q c x y ux uy a b wy b' : Int} (h : p*p+q*q=c*c) (h1 : c*ux = p*x - q*y + a) (h2 : c*uy = q*x+p*y+b) (h3 : c*wy = -q*ux + p*uy + b') : c*(c*wy - c*y - b') = -q*a+p*b := by
  have e1 : c * (-q * ux + p * uy + b' - c * y - b') = -q * (c * ux) + p * (c * uy) - (c * c) * y := by clear h h1 h2 h3; grind
  rw [h3, e1, h1, h2, ← h]
  clear h h1 h2 h3 e1
  grind
/-- What is turned and turned back has a place within two of each place. -/
theorem back_near {r : Reg} {h : Hdg} (hh : okHdg h = true) {v : Pnt} (hv : inR v r) {t : Reg} (ht : tightO (turnedS r h) = some t) :
    ∃ w : Pnt, inR w (turnedS t ⟨h.p, -h.q, h.c⟩) ∧ w.x - v.x ≤ 2 ∧ v.x - w.x ≤ 2 ∧ w.y - v.y ≤ 2 ∧ v.y - w.y ≤ 2 ∧ w.x + w.y - (v.x + v.y) ≤ 2 ∧ v.x + v.y - (w.x + w.y) ≤ 2 ∧ w.x - w.y - (v.x - v.y) ≤ 2 ∧ v.x - v.y - (w.x - w.y) ≤ 2 := by
  obtain ⟨c1, c2, p1, p2, q1, q2, hn⟩ := okHdg_iff.1 hh
  obtain ⟨u, hu, a, b, ha, hb, hab⟩ := turned_near hh hv
  replace hu := tight_in ht hu
  obtain ⟨w, hw, a', b', ha', hb', hab'⟩ := turned_near (inv_ok hh) hu
  refine ⟨w, hw, ?_⟩
  dsimp only at ha' hb' hab'
  have k1 := back_x hn ha hb ha'
  have k2 := back_y hn ha hb hb'
  have m1 := smul_bd (a := h.p) (b := a) (A := h.c) (B := (a.natAbs : Int)) (by omega) (by omega) (by omega) (by omega)
  have m2 := smul_bd (a := h.q) (b := b) (A := h.c) (B := (b.natAbs : Int)) (by omega) (by omega) (by omega) (by omega)
  have m3 := smul_bd (a := -h.q) (b := a) (A := h.c) (B := (a.natAbs : Int)) (by omega) (by omega) (by omega) (by omega)
  have m4 := smul_bd (a := h.p) (b := b) (A := h.c) (B := (b.natAbs : Int)) (by omega) (by omega) (by omega) (by omega)
  have m5 : h.c * ((a.natAbs : Int) + (b.natAbs : Int)) < h.c * h.c := Int.mul_lt_mul_of_pos_left (by omega) (by omega)
  rw [Int.mul_add] at m5
  have n1 : h.c * w.x - h.c * v.x - a' < h.c := mul_lt_of c1 (by omega)
  have n2 : -h.c < h.c * w.x - h.c * v.x - a' := mul_lt_of c1 (by rw [Int.mul_neg]; omega)
  have n3 : h.c * w.y - h.c * v.y - b' < h.c := mul_lt_of c1 (by omega)
  have n4 : -h.c < h.c * w.y - h.c * v.y - b' := mul_lt_of c1 (by rw [Int.mul_neg]; omega)
  have F : ∀ a b : Int, h.c * (a - b) = h.c * a - h.c * b := fun a b => Int.mul_sub _ _ _
  have E : ∀ a b : Int, h.c * (a + b) = h.c * a + h.c * b := fun a b => Int.mul_add _ _ _
  have L : ∀ k : Int, h.c * k < h.c * 3 → k ≤ 2 := fun k hk => by have := mul_lt_of c1 hk; omega
  have e3 : h.c * 3 = 3 * h.c := Int.mul_comm _ _
  refine ⟨L _ ?_, L _ ?_, L _ ?_, L _ ?_, L _ ?_, L _ ?_, L _ ?_, L _ ?_⟩
  all_goals (simp only [F, E]; omega)
/-! A quarter turn. -/
def quarR (t : Reg) : Reg := ⟨negB t.y, t.x, t.d, negB t.s⟩
theorem turned_quarter {t : Reg} (h : TightR t) : turnedS t ⟨0, 1, 1⟩ = quarR t := by
  unfold turnedS
  dsimp only
  rw [turnB_one, turnB_one, turnB_one, turnB_one]
  obtain ⟨p1, i1, e1⟩ := h.xlo
  obtain ⟨p2, i2, e2⟩ := h.xhi
  obtain ⟨p3, i3, e3⟩ := h.ylo
  obtain ⟨p4, i4, e4⟩ := h.yhi
  obtain ⟨p5, i5, e5⟩ := h.slo
  obtain ⟨p6, i6, e6⟩ := h.shi
  obtain ⟨p7, i7, e7⟩ := h.dlo
  obtain ⟨p8, i8, e8⟩ := h.dhi
  unfold quarR negB
  have x : extB t 0 (-1) = ⟨-t.y.hi, -t.y.lo⟩ := ext_eq ⟨p4, i4, by dsimp only; omega⟩ ⟨p3, i3, by dsimp only; omega⟩ fun v hv => by unfold inR inB at *; dsimp only; omega
  have y : extB t 1 0 = t.x := ext_eq ⟨p1, i1, by omega⟩ ⟨p2, i2, by omega⟩ fun v hv => by unfold inR inB at *; omega
  have s : extB t (0 + 1) (0 - 1) = t.d := ext_eq ⟨p7, i7, by omega⟩ ⟨p8, i8, by omega⟩ fun v hv => by unfold inR inB at *; omega
  have d : extB t (0 - 1) (-1 - 0) = ⟨-t.s.hi, -t.s.lo⟩ := ext_eq ⟨p6, i6, by dsimp only; omega⟩ ⟨p5, i5, by dsimp only; omega⟩ fun v hv => by unfold inR inB at *; dsimp only; omega
  rw [x, y, s, d]
theorem tight_quar {t : Reg} (h : TightR t) : TightR (quarR t) := by
  obtain ⟨p1, i1, e1⟩ := h.xlo
  obtain ⟨p2, i2, e2⟩ := h.xhi
  obtain ⟨p3, i3, e3⟩ := h.ylo
  obtain ⟨p4, i4, e4⟩ := h.yhi
  obtain ⟨p5, i5, e5⟩ := h.slo
  obtain ⟨p6, i6, e6⟩ := h.shi
  obtain ⟨p7, i7, e7⟩ := h.dlo
  obtain ⟨p8, i8, e8⟩ := h.dhi
  have f : ∀ p : Pnt, inR p t → inR ⟨-p.y, p.x⟩ (quarR t) := fun p hp => by unfold inR inB quarR negB at *; dsimp only; omega
  exact ⟨⟨_, f _ i4, by show -p4.y = -t.y.hi; omega⟩, ⟨_, f _ i3, by show -p3.y = -t.y.lo; omega⟩, ⟨_, f _ i1, e1⟩, ⟨_, f _ i2, e2⟩,
    ⟨_, f _ i7, by show -p7.y + p7.x = t.d.lo; omega⟩, ⟨_, f _ i8, by show -p8.y + p8.x = t.d.hi; omega⟩, ⟨_, f _ i6, by show -p6.y - p6.x = -t.s.hi; omega⟩, ⟨_, f _ i5, by show -p5.y - p5.x = -t.s.lo; omega⟩⟩
theorem quar_ok {r : Reg} (h : okReg r = true) : okReg (quarR r) = true := by
  rw [okReg_iff] at *
  unfold quarR negB
  dsimp only
  omega
theorem quar_four (r : Reg) : quarR (quarR (quarR (quarR r))) = r := by
  obtain ⟨⟨a, b⟩, ⟨c, d⟩, ⟨e, f⟩, ⟨g, h⟩⟩ := r
  simp [quarR, negB]
theorem ok_plane {r : Reg} (h : okReg r = true) : inPlane r = true := by
  rw [okReg_iff] at h
  unfold inPlane okBnd
  simp only [Bool.and_eq_true, decide_eq_true_eq]
  omega
theorem hdg_quar : okHdg ⟨0, 1, 1⟩ = true := by decide
theorem turnedR_quar {t : Reg} (h : TightR t) (ho : okReg t = true) : turnedR t ⟨0, 1, 1⟩ = (quarR t, 0) := by
  rw [turnedR, if_pos ho, if_pos hdg_quar, tight_self h]
  dsimp only
  rw [turned_quarter h, if_pos (ok_plane (quar_ok ho))]
/-! Places within a distance. -/
def intoL (m n : Int) : Int := max (-m) (min n m)
def wideB (m n : Int) (b : Bnd) : Bnd := ⟨intoL m (b.lo - n), intoL m (b.hi + n)⟩
def wideR (n m : Int) (r : Reg) : Reg := ⟨wideB 32768 n r.x, wideB 32768 n r.y, wideB 65536 m r.s, wideB 65536 m r.d⟩
theorem wide_ok {r : Reg} (h : okReg r = true) : okReg (wideR 2 2 r) = true := by
  rw [okReg_iff] at *
  unfold wideR wideB intoL
  dsimp only
  omega
end Go.Proofs.YthjdjpcomocffaaGreat
