/-
  Plain laws for TowRises. Nothing of the program stands here.
-/
import Derived.Test.YtjiaepphnddpoaaM4
namespace Go.Proofs.Ytjiaepphnddpoaa
open Go.RowKit Go.Shelf
theorem LeL.refl (l : List Int) : LeL l l := ⟨rfl, fun i x y hx hy => by rw [hx] at hy; cases hy; exact Int.le_refl _⟩
theorem LeL.set {l : List Int} {i : Nat} {x d : Int} (h : l[i]? = some x) (hd : 0 ≤ d) : LeL l (l.set i (x + d)) := by
  refine ⟨by simp, fun k a b ha hb => ?_⟩
  rw [List.getElem?_set] at hb
  by_cases e : i = k
  · subst e
    rw [if_pos rfl, if_pos (lt_of_at h)] at hb
    rw [h] at ha
    cases ha
    cases hb
    omega
  · rw [if_neg e, ha] at hb
    cases hb
    exact Int.le_refl _
/-- A step that succeeds, with more of something: it fails by what became too great, or nothing is less. -/
theorem rises {s : Strm} {o p d e : List Int} (h : (stepR s o d).2 = 0) (h1 : LeL o p) (h2 : LeL d e) :
    ((stepR s p e).2 = 31 ∧ (stepR s p e).1 = []) ∨ ((stepR s p e).2 = 32 ∧ (stepR s p e).1 = []) ∨ ((stepR s p e).2 = 0 ∧ LeL (stepR s o d).1 (stepR s p e).1) := by
  unfold stepR at h
  by_cases ho : okStrm s = true
  · rw [if_pos ho] at h
    by_cases hn : okNums s o 16384 = true
    · rw [if_pos hn] at h
      by_cases hm : okNums s d 100 = true
      · by_cases hp : okNums s p 16384 = true
        · by_cases hq : okNums s e 100 = true
          · refine .inr (.inr ⟨by rw [stepR_ok ho hp hq], ?_⟩)
            rw [stepR_ok ho hp hq, stepR_ok ho hn hm]
            exact h1.step ho (okNums_len hn) h2
          · exact .inr (.inl (by rw [stepR, if_pos ho, if_pos hp, if_neg hq]; exact ⟨rfl, rfl⟩))
        · exact .inl (by rw [stepR, if_pos ho, if_neg hp]; exact ⟨rfl, rfl⟩)
      · rw [if_neg hm] at h; simp at h
    · rw [if_neg hn] at h; simp at h
  · rw [if_neg ho] at h; simp at h
end Go.Proofs.Ytjiaepphnddpoaa
