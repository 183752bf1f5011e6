/-
  Plain laws of the steps of a streamer within bounds. Nothing of the program stands here.
-/
import Derived.Test.YthjdjpcomocffaaGreatH2
namespace Go.Proofs.YthjdjpcomocffaaGreat
open Go.RowKit Go.Shelf
set_option linter.unusedSimpArgs false
set_option linter.unusedVariables false

theorem okNums_of_lies {s : Strm} {o : List Int} {l : List Bnd} (hn : l.length = s.secs.length) (h : Lies o l) (hl : l.all (okBnd 16384) = true) : okNums s o 16384 = true := by
  unfold okNums
  rw [Bool.and_eq_true]
  refine ⟨decide_eq_true (by have := h.1; omega), List.all_eq_true.2 fun x hx => ?_⟩
  have := h.range hl x hx
  exact decide_eq_true (by omega)
theorem stepR_ok {s : Strm} {o d : List Int} (h1 : okStrm s = true) (h2 : okNums s o 16384 = true) (h3 : okNums s d 100 = true) : stepR s o d = (stepL s o d, 0) := by
  rw [stepR, if_pos h1, if_pos h2, if_pos h3]
/-- What the streamer does in a step lies in what is said of it. -/
theorem safe_bent {s : Strm} {bs : List Bnd} {l : List Wat} {tr : List Int} {t n : Nat} (hn : (encAt s bs l (t + 1)).length = s.secs.length) (hL : Lies tr (encAt s bs l (t + 1))) {i : Nat} (hi : i < s.secs.length) (ht : t < n) (h : s.bend < bendAt s tr i) :
    0 ≤ fstN (bentN s bs l) n ∧ fstN (bentN s bs l) n ≤ t :=
  fstN_hit (bentS_of (i := i) (by omega) (by have := (hL.bend (s := s) (i := i) (by omega)).2; omega)) n ht
theorem safe_pulled {s : Strm} {bs : List Bnd} {l : List Wat} {v : List Int} {tr : List Int} {t n : Nat} {c : Int} (hs : okStrm s = true) (hn : (encAt s bs l (t + 1)).length = s.secs.length) (hL : Lies tr (encAt s bs l (t + 1))) (hc : inB c (l.getD t wat0).alo) {i : Nat} (hi : i < s.secs.length) (ht : t < n)
    (h : (s.sec i).cap < sumFr (pullAt s (max 0 (v.getD t 0 - c)) (bendAt s tr)) i (s.secs.length - i)) :
    0 ≤ fstN (pulledN s bs l v) n ∧ fstN (pulledN s bs l v) n ≤ t :=
  fstN_hit (pulledS_of (i := i) (by omega) (by have := (Lies.pull (v := v.getD t 0) hs hn hL hc (i := i) (by omega)).2; rw [hn] at this; omega)) n ht
theorem insB_nil (fr : Int) (i : Nat) {b : Bnd} (h : -1000000 ≤ b.lo ∧ b.lo ≤ 1000000) : insB [] fr i b = b.lo := by
  have e : ∀ m, restS (pickS [] (fr + i)) m = 0 := fun m => by
    have : pickS [] (fr + i) = 0 := by simp [pickS]
    rw [this, restS]; split
    · rfl
    · exact Int.zero_emod m
  unfold insB
  rw [e]; unfold wrap64; omega
theorem insL_nil {l : List Bnd} (fr : Int) (h : l.all (okBnd 16384) = true) : insL l [] fr = l.map (·.lo) := by
  refine List.ext_getElem? fun i => ?_
  rw [List.getElem?_map]
  cases hb : l[i]? with
  | none => rw [List.getElem?_eq_none (by rw [insL_len]; exact List.getElem?_eq_none_iff.1 hb)]; rfl
  | some b =>
    rw [insL_at l [] fr hb, Option.map_some]
    obtain ⟨h1, h2, h3⟩ := of_decide_eq_true (List.all_eq_true.1 h b (List.mem_of_getElem? hb))
    rw [insB_nil fr i (by omega)]
theorem drTo_nil {b : Bnd} (fr : Int) (k : Nat) (h : okBnd 100 b = true) {i : Nat} (hi : i < k) : (drTo b [] fr k).getD i 0 = b.lo := by
  rw [getD_of _ (drTo_at b [] fr hi)]
  obtain ⟨h1, h2, h3⟩ := of_decide_eq_true h
  exact insB_nil fr i (by omega)
theorem rep_getD (x : Int) {n i : Nat} (hi : i < n) : (List.replicate n x).getD i 0 = x := by
  rw [List.getD_eq_getElem?_getD, List.getElem?_replicate, if_pos hi]; rfl
theorem okNums_rep' {s : Strm} {b : Bnd} (h : okBnd 100 b = true) : okNums s (List.replicate s.secs.length b.hi) 100 = true := by
  obtain ⟨h1, h2, h3⟩ := of_decide_eq_true h
  unfold okNums
  rw [Bool.and_eq_true]
  refine ⟨decide_eq_true (List.length_replicate ..), List.all_eq_true.2 fun x hx => ?_⟩
  rw [List.eq_of_mem_replicate hx]
  exact decide_eq_true (by omega)
/-- The three steps of a round. -/
theorem within_step {s : Strm} {bs : List Bnd} {l : List Wat} {bits tr : List Int} {k : Nat} (fr : Int) (hs : okStrm s = true) (hb : okOffs s bs = true) (hl : l.all okWat = true) (hL : Lies tr (encAt s bs l k)) :
    encR s (encAt s bs l k) (l.getD k wat0).acr = (encAt s bs l (k + 1), 0) ∧
    stepR s tr (drTo (l.getD k wat0).acr bits fr s.secs.length) = (stepL s tr (drTo (l.getD k wat0).acr bits fr s.secs.length), 0) ∧
    Lies (stepL s tr (drTo (l.getD k wat0).acr bits fr s.secs.length)) (encAt s bs l (k + 1)) ∧
    stepR s ((encAt s bs l k).map (·.lo)) (drTo (l.getD k wat0).acr [] 0 s.secs.length) = ((encAt s bs l (k + 1)).map (·.lo), 0) ∧
    stepR s ((encAt s bs l k).map (·.hi)) (List.replicate s.secs.length (l.getD k wat0).acr.hi) = ((encAt s bs l (k + 1)).map (·.hi), 0) := by
  have hE := encAt_ok hs hb hl k
  have hd := (okWat_get hl k).1
  have hn := okOffs_len hE
  refine ⟨?_, stepR_ok hs (okNums_of_lies hn hL (okOffs_all hE)) (drTo_ok bits fr hd), hL.step hs hn fun i hi => drTo_in bits fr _ (by omega) hd (by omega), ?_, ?_⟩
  · have e : errB s (encAt s bs l k) = 0 := by rw [errB, if_pos hs, if_pos hE]
    rw [encR, if_pos e, if_pos hd]; rfl
  · rw [stepR_ok hs (okNums_lo hE) (drTo_ok [] 0 hd), stepL_lo s (encAt s bs l k) (l.getD k wat0).acr _ fun i hi => drTo_nil 0 _ hd (by omega)]; rfl
  · rw [stepR_ok hs (okNums_hi hE) (okNums_rep' hd), stepL_hi s (encAt s bs l k) (l.getD k wat0).acr _ fun i hi => rep_getD _ (by omega)]; rfl
end Go.Proofs.YthjdjpcomocffaaGreat
