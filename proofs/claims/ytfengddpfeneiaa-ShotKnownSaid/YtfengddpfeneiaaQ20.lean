/-
  What is said of single arrays, firings and rules: closed facts.
-/
import Derived.Test.YtfengddpfeneiaaQ11
import Derived.Test.YtfengddpfeneiaaQ5
namespace Go.Proofs.Ytfengddpfeneiaa
open Go.RowKit
def arrW : Arr := ⟨[4, -2], [⟨1, 0, ⟨-8, 8⟩⟩, ⟨1, 0, ⟨-8, 8⟩⟩, ⟨1, 0, ⟨-8, 8⟩⟩]⟩
def arrX0 : Arr := ⟨[], []⟩
def arrX1 : Arr := ⟨[], [⟨3, 0, ⟨0, 1⟩⟩, ⟨1, 2, ⟨0, 0⟩⟩]⟩
def arrX2 : Arr := ⟨[4, -2], [⟨0, 0, ⟨0, 1⟩⟩, ⟨1, 2, ⟨0, 0⟩⟩]⟩
def arrX3 : Arr := ⟨[4, -2], [⟨3, 0, ⟨0, 1⟩⟩, ⟨1, 17, ⟨0, 0⟩⟩]⟩
def arrX4 : Arr := ⟨[4, -2], [⟨3, 0, ⟨2, 1⟩⟩, ⟨1, 2, ⟨0, 0⟩⟩]⟩
theorem chkX0 : chkArr arrX0 = 50 := by decide +kernel
theorem chkX1 : chkArr arrX1 = 50 := by decide +kernel
theorem chkX2 : chkArr arrX2 = 50 := by decide +kernel
theorem chkX3 : chkArr arrX3 = 50 := by decide +kernel
theorem chkX4 : chkArr arrX4 = 50 := by decide +kernel
theorem sig2 : sigR gunsA [1] = ([], 51) := by decide +kernel
theorem mis2 : misR gunsA [17, 0] = (0, 51) := by decide +kernel
theorem worst2 : worstR arrW = ([], 0, 3) := by decide +kernel
theorem loss2 : lossR gunsA (-1) 1 = ([], 7) := by decide +kernel
theorem loss3 : lossR gunsA 5 4 = ([], 7) := by decide +kernel
theorem loss4 : lossR arrW 7 3 = ([[0, 1], [0, 2], [1, 2]], 0) := by decide +kernel
theorem fire2 : fireR fir0 [] = ([], 53) := by decide +kernel
theorem fire3 : fireR fir0 [2, 1] = ([], 53) := by decide +kernel
theorem time2 : timeR fir0 [⟨2, 3⟩, ⟨0, 1⟩] = ([], 4) := by decide +kernel
theorem time3 : timeR fir0 [⟨2, 1⟩] = ([], 53) := by decide +kernel
def firS : Fir := ⟨10, 1, 2, 4, 1000⟩
def firO : Fir := ⟨10, 5, 2, 1, 4⟩
theorem pace3 : paceR firO = (1000, 0) := by decide +kernel
theorem chkF0 : chkFir ⟨0, 0, 0, 0, 0⟩ = 52 := by decide +kernel
theorem chkR0 : chkRul ⟨0, 0, 0, 0⟩ = 54 := by decide +kernel
theorem judge2 : judgeR rul0 [0, 1, 1, 0, 0, 0] = (6, 0, 0) := by decide +kernel
theorem judge3 : judgeR rul0 [1, 1, 1] = (2, 1, 0) := by decide +kernel
theorem judge4 : judgeR rul0 [2] = (0, 0, 55) := by decide +kernel
theorem fore2 : foreR rul0 [3] = (⟨0, 0⟩, 55) := by decide +kernel
theorem allow2 : allowR rul0 [1, 1, 1] 1 = (0, 4) := by decide +kernel
theorem allow3 : allowR rul0 [] 65 = (0, 7) := by decide +kernel
theorem bound1 : boundR rul0 [1, 1, 1, 1, 0, 1] [⟨2, 0⟩, ⟨2, 1⟩] = (1, 0) := by decide +kernel
theorem bound2 : boundR rul0 [1, 1, 1, 1, 0, 1] [⟨2, 2⟩] = (0, 56) := by decide +kernel
theorem bound3 : boundR rul0 [1, 1, 1, 1, 0, 1] [⟨3, 1⟩] = (0, 56) := by decide +kernel
theorem bound4 : boundR rul0 [1, 1, 1, 1, 0, 1] [⟨4, 0⟩] = (0, 56) := by decide +kernel
theorem bound5 : boundR rul0 [1, 1] [⟨2, 0⟩] = (0, 0) := by decide +kernel
theorem rep2 : repR rul0 [] = ([], 0) := by decide +kernel
theorem reach_bd : ∀ (l : List Int) (far : Int) (k : Nat), -1 ≤ reachS l far k ∧ reachS l far k < (k + l.length : Nat) := fun l far k => by have := reachS_bd l far k; push_cast; omega
theorem reach_hit : ∀ (l : List Int) (far : Int) (k i : Nat) (x : Int), l[i]? = some x → far ≤ x → 0 ≤ reachS l far k
  | [], _, _, i, x, h, _ => by simp at h
  | y :: l, far, k, i, x, h, hx => by
    rw [reachS]
    split
    · omega
    · rename_i hy
      cases i with
      | zero => simp at h; omega
      | succ i => exact reach_hit l far (k + 1) i x (by simpa using h) hx
theorem slow_weak (v : Int) (h1 : 1 ≤ v) : anyWeak firS v = true := by
  unfold anyWeak
  rw [List.any_eq_true]
  refine ⟨shotS firS (paceW v) 2, ?_, ?_⟩
  · unfold shotL
    exact List.mem_map_of_mem (List.mem_range.2 (by decide : 2 < firS.shots.toNat))
  · have e : dueS firS 2 = 12 := by decide
    have h2 : 0 ≤ tickS firS (paceW v) 2 := by
      unfold tickS
      rw [e]
      refine reach_hit _ _ 0 12 (v * 12) ?_ (by omega)
      unfold paceW
      rw [List.getElem?_map, List.getElem?_range (by decide)]
      rfl
    have h3 := reach_bd (paceW v) (dueS firS 2) 0
    have h4 := reach_bd (paceW v) (dueS firS 0) 0
    have hl : (paceW v).length = 512 := by simp [paceW]
    rw [hl] at h3 h4
    generalize paceW v = W at *
    show weakS firS W 2 = true
    unfold weakS
    have h5 : tickS firS W 2 < 512 := by unfold tickS; omega
    have h6 : -1 ≤ tickS firS W (2 - firS.srcs.toNat) := by
      show -1 ≤ tickS firS W 0
      unfold tickS; omega
    rw [Bool.and_eq_true, Bool.and_eq_true, decide_eq_true_eq, decide_eq_true_eq, decide_eq_true_eq]
    exact ⟨⟨h2, by decide⟩, by show _ < (1000 : Int); omega⟩
theorem slow_to : ∀ n, paceTo firS n = (0, 4)
  | 0 => rfl
  | n + 1 => by rw [paceTo, if_pos (slow_weak _ (by omega))]; exact slow_to n
theorem pace2 : paceR firS = (0, 4) := by
  unfold paceR
  rw [if_pos (by decide), slow_to]
end Go.Proofs.Ytfengddpfeneiaa
