/-
  Courses, walks: passages at the example: what is offered.
-/
import Derived.Test.YtcmbmmpihiekhaaGreatC8
import Derived.Test.YtcmbmmpihiekhaaGreatTA
import Derived.Deep.AppendLies
set_option maxRecDepth 100000
set_option maxHeartbeats 16000000
set_option linter.unusedSimpArgs false
set_option linter.unusedVariables false
namespace Go.Proofs.YtcmbmmpihiekhaaGreat
open Go.RowKit Go.Shelf

theorem flat_invC {α : Type} {enc : α → List Value} {s : Nat} (he : ∀ x, (enc x).length = s) : ∀ (xs : List α) (j : Nat) (u : Value), (xs.flatMap enc)[j]? = some u → ∃ k x r, xs[k]? = some x ∧ (enc x)[r]? = some u ∧ j = k * s + r
  | [], j, u, h => by simp at h
  | x :: xs, j, u, h => by
    rw [List.flatMap_cons] at h
    by_cases hj : j < s
    · rw [List.getElem?_append_left (by rw [he]; exact hj)] at h
      exact ⟨0, x, j, rfl, h, by omega⟩
    · rw [List.getElem?_append_right (by rw [he]; omega), he] at h
      obtain ⟨k, y, r, h1, h2, h3⟩ := flat_invC he xs (j - s) u h
      exact ⟨k + 1, y, r, h1, h2, by rw [Nat.add_mul]; omega⟩
theorem SlAt.newsC {α : Type} {w : World} {B s : Nat} {enc : α → List Value} {n c b off : Nat} {xs : List α} (he : ∀ x, (enc x).length = s) (h : SlAt w B s enc (some ⟨b, off, none⟩) n c xs) (hn : 0 < n) : ∀ (j : Nat) (u : Value), (xs.flatMap enc)[j]? = some u → w.cell? ((⟨b, off, none⟩ : Addr).add j) = some u := by
  intro j u hu
  obtain ⟨k, x, r, h1, h2, rfl⟩ := flat_invC he xs j u hu
  obtain ⟨b', off', hA, -, -, hc⟩ := h.2.2.2 hn
  simp only [Option.some.injEq, Addr.mk.injEq] at hA
  obtain ⟨rfl, rfl, -⟩ := hA
  have e : (⟨b, off, none⟩ : Addr).add (k * s + r) = ⟨b, off + (k * s + r), none⟩ := by unfold Addr.add; split <;> simp_all
  rw [e]
  exact hc k x h1 r u h2
theorem flat_lenC {α : Type} {enc : α → List Value} {s : Nat} (he : ∀ x, (enc x).length = s) (xs : List α) : (xs.flatMap enc).length = xs.length * s := by
  induction xs with
  | nil => simp
  | cons x xs ih => rw [List.flatMap_cons, List.length_append, ih, he, List.length_cons, Nat.add_mul]; omega
theorem own_noneC (w : World) (t : TypeId) (s : Nat) : (w.alloc (.cells #[] t)).ownsRow w.heap.size t s (.slice (some ⟨w.heap.size, 0, none⟩) 0 0) 0 [] :=
  ⟨by simp, .inr ⟨w.heap.size, 0, #[], rfl, Nat.le_refl _, heap_alloc_new w _, Nat.le_refl _, by unfold maxLen; omega, by simp, by simp⟩⟩
theorem Tryz.infoPntC : (Tryz.prog.info? 48).map (fun i => (i.zero, i.size, i.bytes)) = some (some (.agg #[.int .i64 0, .int .i64 0]), 2, 16) := by kernel_rfl
theorem pnt_oneC (l : List Pnt) : ∀ u ∈ l.flatMap Pnt.cells, u.oneCell' = true := by
  intro u hu
  obtain ⟨x, -, hx⟩ := List.mem_flatMap.1 hu
  simp [Pnt.cells] at hx
  rcases hx with rfl | rfl <;> rfl
theorem slH {p : Pl} {w w' : World} {n c : Nat} {A : Option Addr} {xs : List Pnt} (h : SlAt w 0 2 Pnt.cells A n c xs) (hI : InvC p w) (hb : BelowH (HM p) w.heap.size w w') : SlAt w' 0 2 Pnt.cells A n c xs := by
  refine ⟨h.1, h.2.1, h.2.2.1, fun hn => ?_⟩
  obtain ⟨b, off, hA, hB, hbl, hc⟩ := h.2.2.2 hn
  obtain ⟨x, hx⟩ := some_of_lt h.1 hn
  have h0 := hc 0 x hx 0 _ rfl
  have hno : ¬ HM p b := by
    obtain ⟨f1, h1⟩ := hI.kn
    obtain ⟨f2, h2⟩ := hI.co
    obtain ⟨e1, n1, q1⟩ := h1.map
    obtain ⟨e2, n2, q2⟩ := h2.map
    rintro (e | e)
    · subst e; simp [World.cell?, q1] at h0
    · subst e; simp [World.cell?, q2] at h0
  refine ⟨b, off, hA, hB, Nat.lt_of_lt_of_le hbl hb.size, fun k y hy j v hv => ?_⟩
  exact (World.cell?_of_block (w := w) (hb.block b hbl hno)).trans (hc k y hy j v hv)
theorem ClonePt_any (l : List Pnt) (A : Option Addr) (n c B : Nat) (w : World) (hn0 : 0 < n) (hn : n ≤ 1000000) (hs : SlAt w B 2 Pnt.cells A n c l) :
    Calls Tryz.prog 176 #[.slice A n c] w fun e w' => ∃ g pc, e = .returned (.slice (some ⟨g, 0, none⟩) n pc) ∧ w'.ownsRow w.heap.size 48 2 (.slice (some ⟨g, 0, none⟩) n pc) n (l.flatMap Pnt.cells) ∧ Below w.heap.size w w' := by
  have hl := Lib.hid hs.len
  obtain ⟨b, off, hA, -, hbl, -⟩ := hs.2.2.2 hn0
  subst hA
  have hown := own_noneC w 48 2
  have hbf := (Below.refl w.heap.size w).alloc (Nat.le_refl _) (.cells #[] 48)
  have hnews := Lib.hid (SlAt.newsC (enc := Pnt.cells) (s := 2) (fun _ => rfl) (hs.alloc (.cells #[] 48)) hn0)
  have hlen : Hid ((l.flatMap Pnt.cells).length = n * 2) := by show _ = _; rw [flat_lenC (s := 2) (fun _ => rfl), hl.out]
  have hone := Lib.hid (pnt_oneC l)
  have hbig1 : Hid (0 + n ≤ maxLen) := by show 0 + n ≤ maxLen; unfold maxLen; omega
  have hbig2 : Hid ((0 + n) * 16 ≤ 140737488355328) := by show (0 + n) * 16 ≤ 140737488355328; omega
  obtain ⟨i0, hi0, hz0, hz1, hz2⟩ := info_parts Tryz.infoPntC
  clear hs
  have hnil := fun W => Lib.run_eql_slice_nil (P := Tryz.prog) W 63 48 (some ⟨b, off, none⟩) n c 0 0 Tryz.underlying63
  simp only [Option.isNone_some] at hnil
  go_enter Tryz.func176, Tryz.ntmps176
  go_wp2_with (at_builtin; refine wpList_append_lies _ rfl (.tmp 5) (.tmp 6) 63 rfl w.heap.size 48 i0 (.agg #[.int .i64 0, .int .i64 0]) 2 16 Tryz.underlying63 hi0 hz0 hz1 hz2 rfl (by decide) (.slice (some ⟨w.heap.size, 0, none⟩) 0 0) 0 [] rfl hown ⟨b, off, none⟩ n c (l.flatMap Pnt.cells) rfl hlen.out hnews.out hone.out hn0 hbig1.out hbig2.out hbf.size (w.heap.size + 1) (by simp) ?_; intro g cap w7 hown7 hgrow hlies hlt7)
  go_ret
  have hbg : Below w.heap.size _ w7 := ⟨hgrow.os, hgrow.tape, hgrow.output, hgrow.size, fun b hb2 => hgrow.block b (Nat.lt_of_lt_of_le hb2 hbf.size) (fun e => by have := (hown.lt _ e.symm).1; omega)⟩
  refine ⟨g, cap, rfl, ?_, hbf.trans hbg⟩
  rw [Nat.zero_add, List.nil_append] at hown7
  exact hown7
theorem offerB_any (p : Pl) (A : Option Addr) (c g3 g4 g5 gY : Nat) (w : World) (hI : InvC p w) (k3 : Blk w g3 211 #[.pointer (some ⟨p.c, 0, none⟩)]) (k4 : Blk w g4 227 #[.int .i64 0, .int .i64 0, .int .i64 0]) (k5 : Blk w g5 227 #[.int .i64 0, .int .i64 0, .int .i64 0]) (hs : SlAt w 0 2 Pnt.cells A 2 c [⟨0, 0⟩, ⟨0, 0⟩]) :
    Calls Tryz.prog 174 #[.slice A 2 c, .pointer (some ⟨g3, 0, none⟩), .pointer (some ⟨g4, 0, none⟩), .pointer (some ⟨g5, 0, none⟩), .pointer (some ⟨gY, 0, none⟩)] w fun e w' => e = .returned (.bool true) ∧ InvC p w' ∧ BelowH (HM p) w.heap.size w w' := by
  obtain ⟨c3, f3, l3⟩ := k3.rules
  obtain ⟨c4, f4, l4⟩ := k4.rules
  obtain ⟨c5, f5, l5⟩ := k5.rules
  go_enter Tryz.func174, Tryz.ntmps174
  go_wp2_with fail
  refine (costB_any p _ c _ hI hs).mono ?_
  rintro e W1 ⟨rfl, hJ, hb⟩
  clear c3 f3 l3 c4 f4 l4 c5 f5 l5
  go_wp2_with fail
  go_quiet (fail)
  go_wp2
  go_ret
  exact ⟨rfl, hJ.below (below_drewN (Below.refl _ _) _), hb.trans (belowH_of ((below_drewN (Below.refl _ _) _).mono hb.size))⟩
theorem offerA_any (m l : Nat) (p : Pl) (A : Option Addr) (c g3 g4 g5 gY : Nat) (w : World) (hI : InvC p w) (k3 : Blk w g3 211 #[.pointer (some ⟨p.c, 0, none⟩)]) (k4 : Blk w g4 227 #[.int .i64 0, .int .i64 0, .int .i64 0]) (k5 : Blk w g5 227 #[.int .i64 0, .int .i64 0, .int .i64 0]) (kY : Blk w gY 292 #[.func (.yield l) #[] #[]]) (hs : SlAt w 0 2 Pnt.cells A 1 c [⟨0, 0⟩]) (Jt Jf : World → Prop) (hKt : ∀ W', Jt W' → Blk W' gY 292 #[.func (.yield l) #[] #[]]) (hKf : ∀ W', Jf W' → Blk W' gY 292 #[.func (.yield l) #[] #[]])
    (hY : ∀ (vs : Array Value) (W1 : World), (∃ B n k, vs = #[.agg #[.slice B n k, .int .i64 0]]) → InvC p W1 → BelowH (HM p) w.heap.size w W1 → YieldAt Fence.wide 0 Tryz.prog l vs W1 fun e W' => (e = .returned (.bool true) ∧ Jt W') ∨ (e = .returned (.bool false) ∧ Jf W')) :
    CallsIn Fence.wide m Tryz.prog 174 #[.slice A 1 c, .pointer (some ⟨g3, 0, none⟩), .pointer (some ⟨g4, 0, none⟩), .pointer (some ⟨g5, 0, none⟩), .pointer (some ⟨gY, 0, none⟩)] w fun e W' => (e = .returned (.bool true) ∧ Jt W') ∨ (e = .returned (.bool false) ∧ Jf W') := by
  refine callsIn_of_wp Tryz.func174 rfl trivial ?_ rfl
  simp only [Tryz.ntmps174, List.size_toArray, List.length_cons, List.length_nil, Nat.reduceAdd, Nat.reduceSub, Array.replicate_succ, Array.replicate_zero, List.push_toArray, List.append_toArray, List.nil_append, List.cons_append]
  obtain ⟨c3, f3, l3⟩ := k3.rules
  obtain ⟨c4, f4, l4⟩ := k4.rules
  obtain ⟨c5, f5, l5⟩ := k5.rules
  gi_wp2_with fail
  refine ⟨trivial, fun h => (by cases h), ?_⟩
  refine (callsIn_wide.2 (costA_any p _ c _ hI hs)).mono ?_
  rintro e W1 ⟨rfl, hJ, hb⟩
  clear c3 f3 l3 c4 f4 l4 c5 f5 l5
  replace kY := hb.blk kY kY.lt (hI.off kY)
  replace hs := slH hs hI hb
  gi_wp2_with fail
  refine wpIn_heldI (fun w' : World => ∀ j, w'.cell? ⟨gY, j, none⟩ = #[Value.func (.yield l) #[] #[]][j]?) (by kernel_rfl) ?_
  have hS : (fun w' : World => ∀ j, w'.cell? ⟨gY, j, none⟩ = #[Value.func (.yield l) #[] #[]][j]?) W1.drew := kY.cell
  have hd : Below W1.heap.size W1 W1.drew := (Below.refl _ _).drew
  replace hs := hs.below hd
  replace kY := kY.below hd
  replace hJ := hJ.below hd
  replace hb := hb.trans (belowH_of (hd.mono hb.size))
  clear hd
  generalize W1.drew = wd at *
  refine hTkI 0 19 ?_
  refine hTkI 1 20 ?_
  refine hTkI 2 21 ?_
  refine hTkI 3 22 ?_
  refine hTkI 4 23 ?_
  refine hTkI 6 25 ?_
  refine hOneI 5 fun K hK => ?_
  go_simp
  refine (ClonePt_any _ _ 1 c 0 _ (by decide) (by decide) hs).mono ?_
  rintro e W2 ⟨gc, pc, rfl, -, hbel⟩
  replace kY := kY.below hbel
  replace hJ := hJ.below hbel
  replace hb := hb.trans (belowH_of (hbel.mono hb.size))
  clear hbel hS
  have hS : (fun w' : World => ∀ j, w'.cell? ⟨gY, j, none⟩ = #[Value.func (.yield l) #[] #[]][j]?) W2 := kY.cell
  refine hK _ _ hS ?_
  clear hK K
  try simp only [Act.put, sA, sZ, sS]
  refine hTkI 7 26 ?_
  obtain ⟨fn, tmps, assign, body, hy, hR⟩ := hY #[.agg #[.slice (some ⟨gc, 0, none⟩) 1 pc, .int .i64 0]] W2 ⟨_, _, _, rfl⟩ hJ hb
  refine heldI_yield (i := 8) (by kernel_rfl) rfl rfl (fun K hK => ?_)
  refine ⟨fun _ _ => trivial, ?_⟩
  rw [show Fence.wide.round = none from rfl, Oper.semAt_none]
  go_simp
  refine ⟨fun h => (by cases h), (RoundIn.anyn hR).mono ?_⟩
  clear hR hy
  rintro e W3 (⟨rfl, hj⟩ | ⟨rfl, hj⟩)
  · have hS : (fun w' : World => ∀ j, w'.cell? ⟨gY, j, none⟩ = #[Value.func (.yield l) #[] #[]][j]?) W3 := (hKt _ hj).cell
    refine hK _ _ hS ?_
    clear hK K
    try simp only [Act.put, sA, sZ, sS]
    refine hTkI 9 28 ?_
    refine hTkI 10 6 ?_
    refine heldI_done (by kernel_rfl) (noPanic_normal ?_) _
    gi_wp2_with fail
    go_ret
    exact .inl ⟨rfl, hj⟩
  · have hS : (fun w' : World => ∀ j, w'.cell? ⟨gY, j, none⟩ = #[Value.func (.yield l) #[] #[]][j]?) W3 := (hKf _ hj).cell
    refine hK _ _ hS ?_
    clear hK K
    try simp only [Act.put, sA, sZ, sS]
    refine hTkI 9 28 ?_
    refine hTkI 10 6 ?_
    refine heldI_done (by kernel_rfl) (noPanic_normal ?_) _
    gi_wp2_with fail
    go_ret
    exact .inr ⟨rfl, hj⟩
theorem offerC_any (m l : Nat) (p : Pl) (A : Option Addr) (c g3 g4 g5 gY : Nat) (w : World) (hI : InvC p w) (k3 : Blk w g3 211 #[.pointer (some ⟨p.c, 0, none⟩)]) (k4 : Blk w g4 227 #[.int .i64 0, .int .i64 0, .int .i64 0]) (k5 : Blk w g5 227 #[.int .i64 10, .int .i64 0, .int .i64 3]) (kY : Blk w gY 292 #[.func (.yield l) #[] #[]]) (hs : SlAt w 0 2 Pnt.cells A 2 c [⟨0, 0⟩, ⟨10, 0⟩]) (Jt Jf : World → Prop) (hKt : ∀ W', Jt W' → Blk W' gY 292 #[.func (.yield l) #[] #[]]) (hKf : ∀ W', Jf W' → Blk W' gY 292 #[.func (.yield l) #[] #[]])
    (hY : ∀ (vs : Array Value) (W1 : World), (∃ B n k, vs = #[.agg #[.slice B n k, .int .i64 14]]) → InvC p W1 → BelowH (HM p) w.heap.size w W1 → YieldAt Fence.wide 0 Tryz.prog l vs W1 fun e W' => (e = .returned (.bool true) ∧ Jt W') ∨ (e = .returned (.bool false) ∧ Jf W')) :
    CallsIn Fence.wide m Tryz.prog 174 #[.slice A 2 c, .pointer (some ⟨g3, 0, none⟩), .pointer (some ⟨g4, 0, none⟩), .pointer (some ⟨g5, 0, none⟩), .pointer (some ⟨gY, 0, none⟩)] w fun e W' => (e = .returned (.bool true) ∧ Jt W') ∨ (e = .returned (.bool false) ∧ Jf W') := by
  refine callsIn_of_wp Tryz.func174 rfl trivial ?_ rfl
  simp only [Tryz.ntmps174, List.size_toArray, List.length_cons, List.length_nil, Nat.reduceAdd, Nat.reduceSub, Array.replicate_succ, Array.replicate_zero, List.push_toArray, List.append_toArray, List.nil_append, List.cons_append]
  obtain ⟨c3, f3, l3⟩ := k3.rules
  obtain ⟨c4, f4, l4⟩ := k4.rules
  obtain ⟨c5, f5, l5⟩ := k5.rules
  gi_wp2_with fail
  refine ⟨trivial, fun h => (by cases h), ?_⟩
  refine (callsIn_wide.2 (costC_any p _ c _ hI hs)).mono ?_
  rintro e W1 ⟨rfl, hJ, hb⟩
  clear c3 f3 l3 c4 f4 l4 c5 f5 l5
  replace kY := hb.blk kY kY.lt (hI.off kY)
  replace hs := slH hs hI hb
  gi_wp2_with fail
  refine wpIn_heldI (fun w' : World => ∀ j, w'.cell? ⟨gY, j, none⟩ = #[Value.func (.yield l) #[] #[]][j]?) (by kernel_rfl) ?_
  have hS : (fun w' : World => ∀ j, w'.cell? ⟨gY, j, none⟩ = #[Value.func (.yield l) #[] #[]][j]?) W1.drew := kY.cell
  have hd : Below W1.heap.size W1 W1.drew := (Below.refl _ _).drew
  replace hs := hs.below hd
  replace kY := kY.below hd
  replace hJ := hJ.below hd
  replace hb := hb.trans (belowH_of (hd.mono hb.size))
  clear hd
  generalize W1.drew = wd at *
  refine hTkI 0 19 ?_
  refine hTkI 1 20 ?_
  refine hTkI 2 21 ?_
  refine hTkI 3 22 ?_
  refine hTkI 4 23 ?_
  refine hTkI 6 25 ?_
  refine hOneI 5 fun K hK => ?_
  go_simp
  refine (ClonePt_any _ _ 2 c 0 _ (by decide) (by decide) hs).mono ?_
  rintro e W2 ⟨gc, pc, rfl, -, hbel⟩
  replace kY := kY.below hbel
  replace hJ := hJ.below hbel
  replace hb := hb.trans (belowH_of (hbel.mono hb.size))
  clear hbel hS
  have hS : (fun w' : World => ∀ j, w'.cell? ⟨gY, j, none⟩ = #[Value.func (.yield l) #[] #[]][j]?) W2 := kY.cell
  refine hK _ _ hS ?_
  clear hK K
  try simp only [Act.put, sA, sZ, sS]
  refine hTkI 7 26 ?_
  obtain ⟨fn, tmps, assign, body, hy, hR⟩ := hY #[.agg #[.slice (some ⟨gc, 0, none⟩) 2 pc, .int .i64 14]] W2 ⟨_, _, _, rfl⟩ hJ hb
  refine heldI_yield (i := 8) (by kernel_rfl) rfl rfl (fun K hK => ?_)
  refine ⟨fun _ _ => trivial, ?_⟩
  rw [show Fence.wide.round = none from rfl, Oper.semAt_none]
  go_simp
  refine ⟨fun h => (by cases h), (RoundIn.anyn hR).mono ?_⟩
  clear hR hy
  rintro e W3 (⟨rfl, hj⟩ | ⟨rfl, hj⟩)
  · have hS : (fun w' : World => ∀ j, w'.cell? ⟨gY, j, none⟩ = #[Value.func (.yield l) #[] #[]][j]?) W3 := (hKt _ hj).cell
    refine hK _ _ hS ?_
    clear hK K
    try simp only [Act.put, sA, sZ, sS]
    refine hTkI 9 28 ?_
    refine hTkI 10 6 ?_
    refine heldI_done (by kernel_rfl) (noPanic_normal ?_) _
    gi_wp2_with fail
    go_ret
    exact .inl ⟨rfl, hj⟩
  · have hS : (fun w' : World => ∀ j, w'.cell? ⟨gY, j, none⟩ = #[Value.func (.yield l) #[] #[]][j]?) W3 := (hKf _ hj).cell
    refine hK _ _ hS ?_
    clear hK K
    try simp only [Act.put, sA, sZ, sS]
    refine hTkI 9 28 ?_
    refine hTkI 10 6 ?_
    refine heldI_done (by kernel_rfl) (noPanic_normal ?_) _
    gi_wp2_with fail
    go_ret
    exact .inr ⟨rfl, hj⟩
end Go.Proofs.YtcmbmmpihiekhaaGreat
