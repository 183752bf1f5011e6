/-
  What must hold of the numbers of repeated shots, as edges; the fewest ones as the least fixed point of these; and the chain of edges that proves it: plain laws. Nothing of the program stands here.
-/
import Derived.Test.YtfengddpfeneiaaGreatQ7
namespace Go.Proofs.YtfengddpfeneiaaGreat
open Go.RowKit
set_option linter.unusedSimpArgs false
set_option linter.unusedVariables false

structure Edg where
  fr : Nat
  tt : Nat
  least : Int
  clm : Clm
def Edg.cells (x : Edg) : List Value := [.int .i64 (x.fr : Int), .int .i64 (x.tt : Int), .int .i64 x.least, .int .i64 x.clm.rule, .int .i64 x.clm.fr]
def edg0 : Edg := ⟨0, 0, 0, ⟨0, 0⟩⟩
theorem SlAt.edg {w : World} {B n c k : Nat} {A : Option Addr} {xs : List Edg} {x : Edg} (h : SlAt w B 5 Edg.cells A n c xs) (hk : xs[k]? = some x) :
    ∃ b off, A = some ⟨b, off, none⟩ ∧ B ≤ b ∧ b < w.heap.size ∧ w.cell? ⟨b, off + k * 5, none⟩ = some (.int .i64 (x.fr : Int)) ∧ w.cell? ⟨b, off + k * 5 + 1, none⟩ = some (.int .i64 (x.tt : Int)) ∧ w.cell? ⟨b, off + k * 5 + 2, none⟩ = some (.int .i64 x.least) ∧ w.cell? ⟨b, off + k * 5 + 3, none⟩ = some (.int .i64 x.clm.rule) ∧ w.cell? ⟨b, off + k * 5 + 4, none⟩ = some (.int .i64 x.clm.fr) := by
  obtain ⟨b, off, hA, hB, hb, hc⟩ := h.at_ hk
  exact ⟨b, off, hA, hB, hb, hc 0 _ rfl, hc 1 _ rfl, hc 2 _ rfl, hc 3 _ rfl, hc 4 _ rfl⟩
def stepE (i : Nat) : List Edg := [⟨i, i + 1, 0, ⟨0, 0⟩⟩, ⟨i + 1, i, -1, ⟨0, 0⟩⟩]
def stepsE (k : Nat) : List Edg := (List.range k).flatMap stepE
def clmE (r : Rul) (l : List Int) (rule : Int) (fr : Nat) : List Edg :=
  match spanS r l ⟨rule, fr⟩ with
  | some s => if s.most < (pN l s.to.toNat : Int) - pN l s.fr.toNat then [⟨pN l s.fr.toNat, pN l s.to.toNat, (pN l s.to.toNat : Int) - pN l s.fr.toNat - s.most, ⟨rule, fr⟩⟩] else []
  | none => []
def ruleE (r : Rul) (l : List Int) (rule : Int) (k : Nat) : List Edg := (List.range k).flatMap (clmE r l rule)
def edgesTo (r : Rul) (l : List Int) : Nat → List Edg
  | 0 => stepsE (cnt l)
  | q + 1 => edgesTo r l q ++ ruleE r l ((q : Int) + 1) (l.length + 1)
def edgesS (r : Rul) (l : List Int) : List Edg := edgesTo r l 3
theorem stepsE_succ (k : Nat) : stepsE (k + 1) = stepsE k ++ stepE k := by unfold stepsE; rw [List.range_succ, List.flatMap_append]; simp
theorem stepsE_len : ∀ k, (stepsE k).length = 2 * k
  | 0 => rfl
  | k + 1 => by rw [stepsE_succ, List.length_append, stepsE_len k]; simp [stepE]; omega
theorem ruleE_succ (r : Rul) (l : List Int) (rule : Int) (k : Nat) : ruleE r l rule (k + 1) = ruleE r l rule k ++ clmE r l rule k := by unfold ruleE; rw [List.range_succ, List.flatMap_append]; simp
theorem clmE_len (r : Rul) (l : List Int) (rule : Int) (k : Nat) : (clmE r l rule k).length ≤ 1 := by
  unfold clmE
  split
  · split <;> simp
  · simp
theorem ruleE_len (r : Rul) (l : List Int) (rule : Int) : ∀ k, (ruleE r l rule k).length ≤ k
  | 0 => by simp [ruleE]
  | k + 1 => by
    rw [ruleE_succ, List.length_append]
    have h1 := ruleE_len r l rule k
    have h2 := clmE_len r l rule k
    omega
theorem cnt_le (l : List Int) : cnt l ≤ l.length := List.countP_le_length
theorem edgesTo_len (r : Rul) (l : List Int) : ∀ q, (edgesTo r l q).length ≤ 2 * l.length + q * (l.length + 1)
  | 0 => by rw [edgesTo, stepsE_len]; have := cnt_le l; omega
  | q + 1 => by
    rw [edgesTo, List.length_append, Nat.add_mul]
    have h1 := edgesTo_len r l q
    have h2 := ruleE_len r l ((q : Int) + 1) (l.length + 1)
    omega
theorem spanS_none_up {r : Rul} {l : List Int} {rule : Int} {k j : Nat} (h : spanS r l ⟨rule, k⟩ = none) (hj : k ≤ j) : spanS r l ⟨rule, j⟩ = none := by
  unfold spanS at *
  dsimp only at *
  by_cases h1 : rule = 1
  · rw [if_pos h1] at *
    by_cases h2 : (0 : Int) ≤ k ∧ (k : Int) ≤ (l.length : Int) - r.row
    · rw [if_pos h2] at h; cases h
    · rw [if_neg (by omega)]
  · rw [if_neg h1] at *
    by_cases h1 : rule = 2
    · rw [if_pos h1] at *
      by_cases h2 : (0 : Int) ≤ k ∧ (k : Int) ≤ (l.length : Int) - min r.win l.length
      · rw [if_pos h2] at h; cases h
      · rw [if_neg (by omega)]
    · rw [if_neg h1] at *
      by_cases h1 : rule = 3
      · rw [if_pos h1] at *
        by_cases h2 : (k : Int) = 0
        · rw [if_pos h2] at h; cases h
        · rw [if_neg (by omega)]
      · rw [if_neg h1]
theorem ruleE_stop {r : Rul} {l : List Int} {rule : Int} {k : Nat} (h : spanS r l ⟨rule, k⟩ = none) : ∀ d, ruleE r l rule (k + d) = ruleE r l rule k
  | 0 => rfl
  | d + 1 => by
    rw [← Nat.add_assoc, ruleE_succ, ruleE_stop h d]
    have : clmE r l rule (k + d) = [] := by unfold clmE; rw [show ((k + d : Nat) : Int) = ((k + d : Nat) : Int) from rfl, spanS_none_up h (by omega : k ≤ k + d)]
    rw [this, List.append_nil]
theorem ruleE_stop' {r : Rul} {l : List Int} {rule : Int} {k n : Nat} (h : spanS r l ⟨rule, k⟩ = none) (hk : k ≤ n) : ruleE r l rule n = ruleE r l rule k := by
  have := ruleE_stop h (n - k)
  rwa [show k + (n - k) = n by omega] at this
end Go.Proofs.YtfengddpfeneiaaGreat
