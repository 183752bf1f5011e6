/-
  Closed facts of TowKnown.
-/
import Derived.Test.YthjdjpcomocffaaGreatE1
import Derived.Test.YthjdjpcomocffaaGreatG18
import Derived.Test.YthjdjpcomocffaaGreatN6
namespace Go.Proofs.YthjdjpcomocffaaGreat
open Go.RowKit Go.Shelf

def strK0 : Strm := { head := 0, secs := [], lane := ⟨0, 0⟩, bend := 0 }
def strK1 : Strm := { cable0 with head := 2001 }
def strK2 : Strm := { cable0 with lane := ⟨21, 20⟩ }
def strK3 : Strm := { cable0 with bend := -1 }
def strK4 : Strm := { cable0 with secs := [⟨100, 32, 0, 2, 5000⟩, ⟨100, 16, 5, 3, 3000⟩, ⟨0, 0, 0, 0, 0⟩] }
def strK5 : Strm := { cable0 with secs := [⟨100, 65, 0, 2, 5000⟩, ⟨100, 16, 5, 3, 3000⟩] }
def sideK : Strm := { cable0 with head := 40 }
def farK : List Bnd := [⟨40, 44⟩, ⟨40, 40⟩]
def softK : List Wat := [⟨⟨-1, 2⟩, ⟨0, 0⟩⟩]
theorem chkK0 : chkStrm strK0 = 30 := by decide +kernel
theorem chkK1 : chkStrm strK1 = 30 := by decide +kernel
theorem chkK2 : chkStrm strK2 = 30 := by decide +kernel
theorem chkK3 : chkStrm strK3 = 30 := by decide +kernel
theorem chkK4 : chkStrm strK4 = 30 := by decide +kernel
theorem chkK5 : chkStrm strK5 = 30 := by decide +kernel
theorem stepK1 : stepR cable0 [1] [0, 0] = ([], 31) := by decide +kernel
theorem stepK2 : stepR cable0 [1, 16385] [0, 0] = ([], 31) := by decide +kernel
theorem stepK3 : stepR cable0 [1, 2] [0, 101] = ([], 32) := by decide +kernel
theorem encK : encR cable0 [⟨1, 0⟩, ⟨0, 0⟩] ⟨0, 0⟩ = ([], 31) := by decide +kernel
theorem pullK1 : pullR cable0 [⟨4, 7⟩, ⟨16, 20⟩] 101 ⟨0, 0⟩ = ([], 34) := by decide +kernel
theorem pullK2 : pullR cable0 [⟨4, 7⟩, ⟨16, 20⟩] 100 ⟨-51, 0⟩ = ([], 33) := by decide +kernel
theorem watchK1 : watchR cable0 [⟨10, 10⟩, ⟨20, 24⟩] [] [1] = ((0, 0), 34) := by decide +kernel
theorem watchK2 : watchR cable0 [⟨10, 10⟩, ⟨20, 24⟩] [] [] = ((-1, -1), 0) := by decide +kernel
theorem fastK1 : fastR cable0 [⟨10, 10⟩, ⟨20, 24⟩] [] [1] = ([], 0, 3) := by decide +kernel
theorem fastK2 : fastR cable0 [⟨10, 10⟩, ⟨20, 24⟩] softK [] = ([], 0, 3) := by decide +kernel
theorem fastK3 : fastR cable0 [⟨10, 10⟩, ⟨20, 24⟩] softK [30, 20, 30] = ([0], 30, 0) := by decide +kernel
theorem fastK4 : fastR cable0 [⟨10, 10⟩, ⟨20, 24⟩] softK [100] = ([], 0, 4) := by decide +kernel
theorem weakK : weakR cable0 [⟨10, 10⟩, ⟨20, 24⟩] softK [20] = (0, 0) := by decide +kernel
theorem hdgK0 : chkHdg ⟨0, 0, 0⟩ = 35 := by decide +kernel
theorem hdgK1 : chkHdg ⟨1, 1, 1⟩ = 35 := by decide +kernel
theorem hdgK2 : chkHdg ⟨3, 4, -5⟩ = 35 := by decide +kernel
theorem hdgK3 : chkHdg ⟨1001, 0, 1001⟩ = 35 := by decide +kernel
theorem turnK0 : turnedR ⟨⟨2, 3⟩, ⟨5, 5⟩, ⟨7, 8⟩, ⟨-3, -2⟩⟩ ⟨0, 1, 1⟩ = (⟨⟨-5, -5⟩, ⟨2, 3⟩, ⟨-3, -2⟩, ⟨-8, -7⟩⟩, 0) := by decide +kernel
def nodeK0 : Reg := ⟨⟨-100, -99⟩, ⟨4, 7⟩, ⟨-96, -92⟩, ⟨-107, -103⟩⟩
def nodeK1 : Reg := ⟨⟨-200, -197⟩, ⟨16, 20⟩, ⟨-184, -177⟩, ⟨-220, -213⟩⟩
def nodeK2 : Reg := ⟨⟨-100, -99⟩, ⟨40, 44⟩, ⟨-60, -55⟩, ⟨-144, -139⟩⟩
def nodeK3 : Reg := ⟨⟨-200, -198⟩, ⟨40, 40⟩, ⟨-160, -158⟩, ⟨-240, -238⟩⟩
theorem nodesA : nodesL cable0 [⟨4, 7⟩, ⟨16, 20⟩] = [nodeK0, nodeK1] := by rw [nodesL_two, node0, node1]; rfl
theorem whereK1 : whereR cable0 [⟨4, 7⟩, ⟨16, 20⟩] ⟨1000, -50⟩ ⟨1, 0, 1⟩ = ([⟨⟨900, 901⟩, ⟨-46, -43⟩, ⟨854, 858⟩, ⟨943, 947⟩⟩, ⟨⟨800, 803⟩, ⟨-34, -30⟩, ⟨766, 773⟩, ⟨830, 837⟩⟩], 0) := by
  unfold whereR
  rw [nodesA, if_pos errB0]
  decide +kernel
theorem whereK2 : whereR cable0 [⟨4, 7⟩, ⟨16, 20⟩] ⟨-32768, 0⟩ ⟨1, 0, 1⟩ = ([], 7) := by
  unfold whereR
  rw [nodesA, if_pos errB0]
  decide +kernel
theorem short4 : shortS 100 4 = 99 := by
  unfold shortS rootS
  rw [show ((100 : Int) * 100 - min 4 100 * min 4 100).toNat = 9984 from by decide, isq_eq (n := 9984) (r := 99) (by decide) (by decide)]; rfl
theorem nearK0 : nearS sideK farK 1 = 99 := by
  rw [nearS, show (sideK.sec 0).len = 100 from rfl, show ((bendL sideK farK).getD 0 ⟨0, 0⟩).hi = 4 from by decide +kernel, short4]; rfl
theorem bK1 : ((bendL sideK farK).getD 1 ⟨0, 0⟩).hi = 4 := by decide +kernel
theorem lK1 : (sideK.sec 1).len = 100 := by decide +kernel
theorem nearK1' (k : Nat) (hk : k = 1) : nearS sideK farK (k + 1) = 198 := by
  rw [nearS_succ]
  subst hk
  rw [nearK0, lK1, bK1, short4]
  decide
theorem nodesB : nodesL sideK farK = [nodeK2, nodeK3] := by
  rw [show nodesL sideK farK = [nodeR sideK farK 0, nodeR sideK farK 1] from rfl]
  rw [show nodeR sideK farK 0 = nodeK2 from (nodeR_of _ _ 0 100 99 ⟨40, 44⟩ (by decide) nearK0 rfl).trans (by decide +kernel)]
  rw [show nodeR sideK farK 1 = nodeK3 from (nodeR_of _ _ 1 200 198 ⟨40, 40⟩ (by decide) (nearK1' 1 rfl) rfl).trans (by decide +kernel)]
def dsK (A B : Option Addr) : List StD := [⟨cable0, A, 2, 2⟩, ⟨sideK, B, 2, 2⟩]
def esK (O P : Option Addr) : List BdD := [⟨[⟨4, 7⟩, ⟨16, 20⟩], O, 2, 2⟩, ⟨farK, P, 2, 2⟩]
def dsL (A : Option Addr) : List StD := [⟨cable0, A, 2, 2⟩]
def esL (O : Option Addr) : List BdD := [⟨[⟨4, 7⟩, ⟨16, 20⟩], O, 2, 2⟩]
theorem errBK : errB sideK farK = 0 := by decide +kernel
theorem sprK (A B O P : Option Addr) : sprOk (dsK A B) (esK O P) = true := by
  unfold sprOk sprTo dsK esK
  simp [errB0, errBK, List.range_succ]
theorem sprK1 (A O P : Option Addr) : sprOk (dsL A) (esK O P) = false := by
  unfold sprOk dsL esK
  simp
theorem sprK2 (A O : Option Addr) : sprOk (dsL A) (esL O) = true := by
  unfold sprOk sprTo dsL esL
  simp [errB0, List.range_succ]
theorem appK : appS [nodeK0, nodeK1] [nodeK2, nodeK3] = ⟨400, 585⟩ := by decide +kernel
theorem appK' : (appS [nodeK2, nodeK3] [nodeK0, nodeK1]).lo = 400 := by decide +kernel
theorem apprK1 (A B O P : Option Addr) : apprR (dsK A B) (esK O P) 0 1 = (⟨400, 585⟩, 0) := by
  unfold apprR
  rw [if_pos (sprK A B O P), if_pos (by rfl)]
  have h : appAt (dsK A B) (esK O P) (0 : Int).toNat (1 : Int).toNat = appS (nodesL cable0 [⟨4, 7⟩, ⟨16, 20⟩]) (nodesL sideK farK) := rfl
  rw [h, nodesA, nodesB, appK]
theorem apprK2 (A B O P : Option Addr) : apprR (dsK A B) (esK O P) 1 1 = (⟨0, 0⟩, 3) := by
  unfold apprR
  rw [if_pos (sprK A B O P), if_neg (by unfold twoOk; simp)]
theorem apprK3 (A O P : Option Addr) : apprR (dsL A) (esK O P) 0 1 = (⟨0, 0⟩, 36) := by
  unfold apprR
  rw [if_neg (by rw [sprK1]; decide)]
set_option maxRecDepth 100000 in
theorem hitK (A B O P : Option Addr) (v : Int) : hitJ (dsK A B) v ((esK O P).map (·.bs)) = decide (400 < v * v) := by
  have h : hitJ (dsK A B) v ((esK O P).map (·.bs)) = ((false || ((decide ((appS (nodesL sideK farK) (nodesL cable0 [⟨4, 7⟩, ⟨16, 20⟩])).lo < v * v)) || false)) || false) := rfl
  rw [h, nodesA, nodesB, appK']
  simp
set_option maxRecDepth 100000 in
theorem tanK (A B O P : Option Addr) (v : Int) : tanS (dsK A B) ((esK O P).map (·.bs)) [] v = if 400 < v * v then 0 else -1 := by
  have h : tanS (dsK A B) ((esK O P).map (·.bs)) [] v = fstN (fun _ => hitJ (dsK A B) v ((esK O P).map (·.bs))) 1 := by
    unfold tanS
    simp only [stAt, List.take_nil, List.foldl_nil, List.length_nil]
  rw [h, hitK]
  by_cases hv : 400 < v * v
  · rw [if_pos hv, decide_eq_true hv]; decide +kernel
  · rw [if_neg hv, decide_eq_false hv]; decide +kernel
theorem tangK1 (A B O P : Option Addr) : tangR (dsK A B) (esK O P) [] 21 = (0, 0) := by
  unfold tangR
  rw [if_pos (sprK A B O P), if_pos (by decide +kernel), if_pos (by decide), tanK]
  rfl
theorem tangK2 (A B O P : Option Addr) : tangR (dsK A B) (esK O P) [] 20 = (-1, 0) := by
  unfold tangR
  rw [if_pos (sprK A B O P), if_pos (by decide +kernel), if_pos (by decide), tanK]
  rfl
set_option maxRecDepth 100000 in
theorem hitK1 (A : Option Addr) (bss : List (List Bnd)) (v : Int) : hitJ (dsL A) v bss = false := rfl
set_option maxRecDepth 100000 in
theorem tangK3 (A O : Option Addr) : tangR (dsL A) (esL O) softK 32768 = (-1, 0) := by
  unfold tangR
  rw [if_pos (sprK2 A O), if_pos (by decide +kernel), if_pos (by decide)]
  have h : tanS (dsL A) ((esL O).map (·.bs)) softK 32768 = fstN (fun _ => false) 2 := by
    unfold tanS
    simp only [hitK1]
    rfl
  rw [h]
  decide +kernel
end Go.Proofs.YthjdjpcomocffaaGreat
