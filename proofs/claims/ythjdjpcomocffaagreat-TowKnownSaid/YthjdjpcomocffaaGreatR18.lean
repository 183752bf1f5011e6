/-
  Walks: the specification's nodes, Nodes; two lists of regions alike.
  Walks: the specification's Nodes and Where.
-/
import Derived.Test.YthjdjpcomocffaaGreatR16
import Derived.Test.YthjdjpcomocffaaGreatR8
import Derived.Test.YthjdjpcomocffaaGreatN6
import Derived.Test.YthjdjpcomocffaaGreatBase
import Derived.Test.YthjdjpcomocffaaGreatR5
import Derived.Test.YthjdjpcomocffaaGreatR15
namespace Go.Proofs.YthjdjpcomocffaaGreat
open Go.RowKit Go.Shelf
set_option linter.unusedSimpArgs false
set_option linter.unusedVariables false

end Go.Proofs.YthjdjpcomocffaaGreat
namespace Go.Proofs.YthjdjpcomocffaaGreat
open Go.RowKit Go.Shelf
set_option linter.unusedSimpArgs false
set_option linter.unusedVariables false

/-- The nodes of a streamer, turned, lie in the plane. -/
theorem node_plane {s : Strm} {bs : List Bnd} {h : Hdg} (hs : okStrm s = true) (hb : okOffs s bs = true) (hh : okHdg h = true) {i : Nat} (hi : i < bs.length) : inPlane (turnedS (nodeR s bs i) h) = true := by
  obtain ⟨h1, -, h3⟩ := node_tight hs hb hi
  obtain ⟨v0, hv0, -⟩ := h1.xlo
  obtain ⟨c1, c2, p1, p2, q1, q2, hn⟩ := okHdg_iff.1 hh
  obtain ⟨u, hu, -⟩ := turned_near hh hv0
  obtain ⟨⟨v3, i3, e3⟩, ⟨v4, i4, e4⟩⟩ := turnB_met (r := nodeR s bs i) (p := h.p) (q := -h.q) c1 ⟨v0, hv0⟩
  obtain ⟨⟨v5, i5, e5⟩, ⟨v6, i6, e6⟩⟩ := turnB_met (r := nodeR s bs i) (p := h.q) (q := h.p) c1 ⟨v0, hv0⟩
  generalize nodeR s bs i = r at *
  have bd : ∀ (a : Int) (v : Pnt), -h.c ≤ a → a ≤ h.c → inR v r → -(h.c * 8000) ≤ a * v.x ∧ a * v.x ≤ h.c * 8000 ∧ -(h.c * 16384) ≤ a * v.y ∧ a * v.y ≤ h.c * 16384 := by
    intro a v a1 a2 hv
    unfold inR inB at hv
    have k1 := smul_bd a1 a2 (show -8000 ≤ v.x by omega) (show v.x ≤ 8000 by omega)
    have k2 := smul_bd a1 a2 (show -16384 ≤ v.y by omega) (show v.y ≤ 16384 by omega)
    exact ⟨k1.1, k1.2, k2.1, k2.2⟩
  have a3 := bd h.p v3 p1 p2 i3
  have b3 := bd (-h.q) v3 (by omega) (by omega) i3
  have a4 := bd h.p v4 p1 p2 i4
  have b4 := bd (-h.q) v4 (by omega) (by omega) i4
  have a5 := bd h.p v5 p1 p2 i5
  have b5 := bd h.q v5 q1 q2 i5
  have a6 := bd h.p v6 p1 p2 i6
  have b6 := bd h.q v6 q1 q2 i6
  unfold inR inB at hu
  unfold inPlane turnedS at *
  dsimp only at *
  generalize turnB r h.c h.p (-h.q) = X at *
  generalize turnB r h.c h.q h.p = Y at *
  generalize h.c = c at *
  have l1 : -24384 < X.lo + 1 := mul_lt_of c1 (by omega)
  have l2 : X.hi - 1 < 24384 := mul_lt_of c1 (by omega)
  have l3 : -24384 < Y.lo + 1 := mul_lt_of c1 (by omega)
  have l4 : Y.hi - 1 < 24384 := mul_lt_of c1 (by omega)
  unfold okBnd
  simp only [Bool.and_eq_true, decide_eq_true_eq]
  omega
end Go.Proofs.YthjdjpcomocffaaGreat
