/-
  The chapter's examples.
-/
import Derived.Test.YthjdjpcomocffaaGreatW13
import Derived.Test.YthjdjpcomocffaaGreatA1
import Derived.Test.YthjdjpcomocffaaGreatN4
import Derived.Test.YthjdjpcomocffaaGreatN5
namespace Go.Proofs.YthjdjpcomocffaaGreat
open Go.RowKit Go.Shelf

theorem Fastest_any (s : Strm) (A O D C : Option Addr) (n c no co nd cd nc cc : Nat) (bs : List Bnd) (l : List Wat) (ch : List Int) (w : World) (hss : SlAt w 0 5 Sec.cells A n c s.secs) (hs : SlAt w 0 2 Bnd.cells O no co bs) (hd : SlAt w 0 4 Wat.cells D nd cd l) (hcs : SlAt w 0 1 ivs C nc cc ch) :
    Calls Tryz.prog 12 #[.agg #[.int .i64 s.head, .slice A n c, .int .i64 s.lane.lo, .int .i64 s.lane.hi, .int .i64 s.bend], .slice O no co, .slice D nd cd, .slice C nc cc] w (RetFast (fastR s bs l ch) w) := by
  by_cases h1 : errBW s bs l = 0
  · obtain rfl := errBW_n h1 hss hs
    by_cases h3 : 1 ≤ l.length ∧ l.length ≤ 6 ∧ 1 ≤ ch.length ∧ ch.length ≤ 4
    · cases h4 : okSpeeds ch
      · exact Fastest_spd s A O D C _ c co nd cd nc cc bs l ch w hss hs hd hcs h1 h3 h4
      · exact Fastest_run s A O D C _ c co nd cd nc cc bs l ch w hss hs hd hcs h1 h3 h4
    · exact Fastest_lim s A O D C _ c co nd cd nc cc bs l ch w hss hs hd hcs h1 h3
  · exact Fastest_err s A O D C n c no co nd cd nc cc bs l ch w hss hs hd hcs h1
theorem short0 : shortS 100 7 = 99 := by
  unfold shortS rootS
  rw [show ((100 : Int) * 100 - min 7 100 * min 7 100).toNat = 9951 from by decide, isq_eq (n := 9951) (r := 99) (by decide) (by decide)]; rfl
theorem short1 : shortS 100 16 = 98 := by
  unfold shortS rootS
  rw [show ((100 : Int) * 100 - min 16 100 * min 16 100).toNat = 9744 from by decide, isq_eq (n := 9744) (r := 98) (by decide) (by decide)]; rfl
theorem nearS_succ (s : Strm) (bs : List Bnd) (k : Nat) : nearS s bs (k + 1) = nearS s bs k + shortS (s.sec k).len ((bendL s bs).getD k ⟨0, 0⟩).hi := rfl
theorem near0 : nearS cable0 [⟨4, 7⟩, ⟨16, 20⟩] 1 = 99 := by
  rw [nearS, show (cable0.sec 0).len = 100 from rfl, show ((bendL cable0 [⟨4, 7⟩, ⟨16, 20⟩]).getD 0 ⟨0, 0⟩).hi = 7 from by decide +kernel, short0]; rfl
theorem b16 : ((bendL cable0 [⟨4, 7⟩, ⟨16, 20⟩]).getD 1 ⟨0, 0⟩).hi = 16 := by decide +kernel
theorem l100 : (cable0.sec 1).len = 100 := by decide +kernel
theorem near1' (k : Nat) (hk : k = 1) : nearS cable0 [⟨4, 7⟩, ⟨16, 20⟩] (k + 1) = 197 := by
  rw [nearS_succ]
  subst hk
  rw [near0, l100, b16, short1]
  decide
theorem near1 : nearS cable0 [⟨4, 7⟩, ⟨16, 20⟩] 2 = 197 := near1' 1 rfl
theorem nodesL_two (s : Strm) (a b : Bnd) : nodesL s [a, b] = [nodeR s [a, b] 0, nodeR s [a, b] 1] := rfl
theorem errB0 : errB cable0 [⟨4, 7⟩, ⟨16, 20⟩] = 0 := by decide +kernel
theorem nodeR_of (s : Strm) (bs : List Bnd) (k : Nat) (f n : Int) (y : Bnd) (hf : farS s (k + 1) = f) (hn : nearS s bs (k + 1) = n) (hy : bs.getD k ⟨0, 0⟩ = y) : nodeR s bs k = (tightR { allReg with x := ⟨-f, -n⟩, y := y }).1 := by
  unfold nodeR; rw [hf, hn, hy]
theorem node0 : nodeR cable0 [⟨4, 7⟩, ⟨16, 20⟩] 0 = ⟨⟨-100, -99⟩, ⟨4, 7⟩, ⟨-96, -92⟩, ⟨-107, -103⟩⟩ :=
  (nodeR_of _ _ 0 100 99 ⟨4, 7⟩ (by decide) near0 rfl).trans (by decide +kernel)
theorem node1 : nodeR cable0 [⟨4, 7⟩, ⟨16, 20⟩] 1 = ⟨⟨-200, -197⟩, ⟨16, 20⟩, ⟨-184, -177⟩, ⟨-220, -213⟩⟩ :=
  (nodeR_of _ _ 1 200 197 ⟨16, 20⟩ (by decide) (near1' 1 rfl) rfl).trans (by decide +kernel)
theorem nodesR_of (s : Strm) (a b : Bnd) (x y : Reg) (h : errB s [a, b] = 0) (h0 : nodeR s [a, b] 0 = x) (h1 : nodeR s [a, b] 1 = y) : nodesR s [a, b] = ([x, y], 0) := by
  unfold nodesR; rw [if_pos h, nodesL_two, h0, h1]
theorem nodes0 : nodesR cable0 [⟨4, 7⟩, ⟨16, 20⟩] = ([⟨⟨-100, -99⟩, ⟨4, 7⟩, ⟨-96, -92⟩, ⟨-107, -103⟩⟩, ⟨⟨-200, -197⟩, ⟨16, 20⟩, ⟨-184, -177⟩, ⟨-220, -213⟩⟩], 0) := nodesR_of _ _ _ _ _ errB0 node0 node1
theorem turned0 : turnedR ⟨⟨-100, -99⟩, ⟨4, 7⟩, ⟨-200, 200⟩, ⟨-200, 200⟩⟩ ⟨3, 4, 5⟩ = (⟨⟨-66, -62⟩, ⟨-78, -75⟩, ⟨-142, -139⟩, ⟨10, 15⟩⟩, 0) := by decide +kernel
set_option maxRecDepth 100000 in
set_option maxHeartbeats 4000000 in
theorem works_any (w : World) : Calls Tryz.prog 20 #[] w fun e w' => e = .returned (.bool true) ∧ Below w.heap.size w w' := by
  have b := Below.refl w.heap.size w
  go_enter Tryz.func20, Tryz.ntmps20
  go_wp2_with fail
  refine (cable_any _).mono ?_
  rintro e w1 ⟨A1, rfl, hc1, hb⟩
  replace b := b.trans (hb.mono b.size)
  replace hc1 := hc1.mono (Nat.zero_le _)
  clear hb
  replace hc1 := hc1.alloc (.cells #[.int .i64 10, .int .i64 20] 3)
  have i1 := (SlAt.of_blk (enc := ivs) (s := 1) (Blk.new w1 3 #[.int .i64 10, .int .i64 20]) (fun _ => rfl) [(10 : Int), (20 : Int)] rfl (by decide)).mono (Nat.zero_le _)
  replace b := b.alloc b.size (.cells #[.int .i64 10, .int .i64 20] 3)
  replace hc1 := hc1.alloc (.cells #[.int .i64 4, .int .i64 (-3)] 3)
  replace i1 := i1.alloc (.cells #[.int .i64 4, .int .i64 (-3)] 3)
  have i2 := (SlAt.of_blk (enc := ivs) (s := 1) (Blk.new (w1.alloc (.cells #[.int .i64 10, .int .i64 20] 3)) 3 #[.int .i64 4, .int .i64 (-3)]) (fun _ => rfl) [(4 : Int), (-3 : Int)] rfl (by decide)).mono (Nat.zero_le _)
  simp only [World.size_alloc] at i2
  replace b := b.alloc b.size (.cells #[.int .i64 4, .int .i64 (-3)] 3)
  have hC := Step_any cable0 A1 _ _ 2 2 2 2 2 2 0 0 0 [10, 20] [4, -3] _ hc1 i1 i2
  rw [show stepR cable0 [10, 20] [4, -3] = ([9, 14], 0) from by decide +kernel] at hC
  go_wp2_with fail
  refine (hC).mono ?_
  rintro e w2 ⟨O_ra, n_ra, c_ra, rfl, ra, hb⟩
  replace hc1 := hc1.below hb
  replace i1 := i1.below hb
  replace i2 := i2.below hb
  replace b := b.trans (hb.mono b.size)
  replace ra := ra.mono (Nat.zero_le _)
  clear hb
  clear hC
  clear hc1
  clear i1
  clear i2
  go_wp2_with fail
  refine (cable_any _).mono ?_
  rintro e w3 ⟨A2, rfl, hc2, hb⟩
  replace ra := ra.below hb
  replace b := b.trans (hb.mono b.size)
  replace hc2 := hc2.mono (Nat.zero_le _)
  clear hb
  replace ra := ra.alloc (.cells #[.int .i64 10, .int .i64 30] 3)
  replace hc2 := hc2.alloc (.cells #[.int .i64 10, .int .i64 30] 3)
  have i1 := (SlAt.of_blk (enc := ivs) (s := 1) (Blk.new w3 3 #[.int .i64 10, .int .i64 30]) (fun _ => rfl) [(10 : Int), (30 : Int)] rfl (by decide)).mono (Nat.zero_le _)
  replace b := b.alloc b.size (.cells #[.int .i64 10, .int .i64 30] 3)
  replace ra := ra.alloc (.cells #[.int .i64 0, .int .i64 0] 3)
  replace hc2 := hc2.alloc (.cells #[.int .i64 0, .int .i64 0] 3)
  replace i1 := i1.alloc (.cells #[.int .i64 0, .int .i64 0] 3)
  have i2 := (SlAt.of_blk (enc := ivs) (s := 1) (Blk.new (w3.alloc (.cells #[.int .i64 10, .int .i64 30] 3)) 3 #[.int .i64 0, .int .i64 0]) (fun _ => rfl) [(0 : Int), (0 : Int)] rfl (by decide)).mono (Nat.zero_le _)
  simp only [World.size_alloc] at i2
  replace b := b.alloc b.size (.cells #[.int .i64 0, .int .i64 0] 3)
  have hC := Step_any cable0 A2 _ _ 2 2 2 2 2 2 0 0 0 [10, 30] [0, 0] _ hc2 i1 i2
  rw [show stepR cable0 [10, 30] [0, 0] = ([5, 20], 0) from by decide +kernel] at hC
  go_wp2_with fail
  refine (hC).mono ?_
  rintro e w4 ⟨O_rb, n_rb, c_rb, rfl, rb, hb⟩
  replace ra := ra.below hb
  replace hc2 := hc2.below hb
  replace i1 := i1.below hb
  replace i2 := i2.below hb
  replace b := b.trans (hb.mono b.size)
  replace rb := rb.mono (Nat.zero_le _)
  clear hb
  clear hC
  clear hc2
  clear i1
  clear i2
  go_wp2_with fail
  refine (cable_any _).mono ?_
  rintro e w5 ⟨A3, rfl, hc3, hb⟩
  replace ra := ra.below hb
  replace rb := rb.below hb
  replace b := b.trans (hb.mono b.size)
  replace hc3 := hc3.mono (Nat.zero_le _)
  clear hb
  go_wp2_with fail
  refine (first_any _).mono ?_
  rintro e w6 ⟨F1, rfl, hf1, hb⟩
  replace ra := ra.below hb
  replace rb := rb.below hb
  replace hc3 := hc3.below hb
  replace b := b.trans (hb.mono b.size)
  replace hf1 := hf1.mono (Nat.zero_le _)
  clear hb
  have hC := Enclose_any cable0 A3 F1 2 2 2 2 0 0 [⟨10, 10⟩, ⟨20, 24⟩] ⟨-1, 2⟩ _ hc3 hf1
  rw [show encR cable0 [⟨10, 10⟩, ⟨20, 24⟩] ⟨-1, 2⟩ = ([⟨4, 7⟩, ⟨16, 20⟩], 0) from by decide +kernel] at hC
  go_wp2_with fail
  refine (hC).mono ?_
  rintro e w7 ⟨O_rc, n_rc, c_rc, rfl, rc, hb⟩
  replace ra := ra.below hb
  replace rb := rb.below hb
  replace hc3 := hc3.below hb
  replace hf1 := hf1.below hb
  replace b := b.trans (hb.mono b.size)
  replace rc := rc.mono (Nat.zero_le _)
  clear hb
  clear hC
  clear hc3
  clear hf1
  go_wp2_with fail
  refine (cable_any _).mono ?_
  rintro e w8 ⟨A4, rfl, hc4, hb⟩
  replace ra := ra.below hb
  replace rb := rb.below hb
  replace rc := rc.below hb
  replace b := b.trans (hb.mono b.size)
  replace hc4 := hc4.mono (Nat.zero_le _)
  clear hb
  go_wp2_with fail
  refine (after_any _).mono ?_
  rintro e w9 ⟨F2, rfl, hf2, hb⟩
  replace ra := ra.below hb
  replace rb := rb.below hb
  replace rc := rc.below hb
  replace hc4 := hc4.below hb
  replace b := b.trans (hb.mono b.size)
  replace hf2 := hf2.mono (Nat.zero_le _)
  clear hb
  have hC := Bends_any cable0 A4 F2 2 2 2 2 0 0 [⟨4, 7⟩, ⟨16, 20⟩] _ hc4 hf2
  rw [show bendR cable0 [⟨4, 7⟩, ⟨16, 20⟩] = ([⟨4, 7⟩, ⟨9, 16⟩], 0) from by decide +kernel] at hC
  go_wp2_with fail
  refine (hC).mono ?_
  rintro e w10 ⟨O_rd, n_rd, c_rd, rfl, rd, hb⟩
  replace ra := ra.below hb
  replace rb := rb.below hb
  replace rc := rc.below hb
  replace hc4 := hc4.below hb
  replace hf2 := hf2.below hb
  replace b := b.trans (hb.mono b.size)
  replace rd := rd.mono (Nat.zero_le _)
  clear hb
  clear hC
  clear hc4
  clear hf2
  replace ra := ra.alloc (.cells #[.int .i64 9, .int .i64 14] 3)
  replace rb := rb.alloc (.cells #[.int .i64 9, .int .i64 14] 3)
  replace rc := rc.alloc (.cells #[.int .i64 9, .int .i64 14] 3)
  replace rd := rd.alloc (.cells #[.int .i64 9, .int .i64 14] 3)
  have i1 := (SlAt.of_blk (enc := ivs) (s := 1) (Blk.new w10 3 #[.int .i64 9, .int .i64 14]) (fun _ => rfl) [(9 : Int), (14 : Int)] rfl (by decide)).mono (Nat.zero_le _)
  replace b := b.alloc b.size (.cells #[.int .i64 9, .int .i64 14] 3)
  have hC := Alike_any O_ra _ n_ra c_ra 2 2 0 0 _ [9, 14] _ ra i1
  rw [decide_eq_true rfl] at hC
  go_wp2_with fail
  refine (hC).mono ?_
  rintro e w11 ⟨rfl, hb⟩
  replace ra := ra.below hb
  replace rb := rb.below hb
  replace rc := rc.below hb
  replace rd := rd.below hb
  replace i1 := i1.below hb
  replace b := b.trans (hb.mono b.size)
  clear hb
  clear hC
  clear ra
  clear i1
  replace rb := rb.alloc (.cells #[.int .i64 5, .int .i64 20] 3)
  replace rc := rc.alloc (.cells #[.int .i64 5, .int .i64 20] 3)
  replace rd := rd.alloc (.cells #[.int .i64 5, .int .i64 20] 3)
  have i1 := (SlAt.of_blk (enc := ivs) (s := 1) (Blk.new w11 3 #[.int .i64 5, .int .i64 20]) (fun _ => rfl) [(5 : Int), (20 : Int)] rfl (by decide)).mono (Nat.zero_le _)
  replace b := b.alloc b.size (.cells #[.int .i64 5, .int .i64 20] 3)
  have hC := Alike_any O_rb _ n_rb c_rb 2 2 0 0 _ [5, 20] _ rb i1
  rw [decide_eq_true rfl] at hC
  go_wp2_with fail
  refine (hC).mono ?_
  rintro e w12 ⟨rfl, hb⟩
  replace rb := rb.below hb
  replace rc := rc.below hb
  replace rd := rd.below hb
  replace i1 := i1.below hb
  replace b := b.trans (hb.mono b.size)
  clear hb
  clear hC
  clear rb
  clear i1
  go_wp2_with fail
  refine (after_any _).mono ?_
  rintro e w13 ⟨F3, rfl, hf3, hb⟩
  replace rc := rc.below hb
  replace rd := rd.below hb
  replace b := b.trans (hb.mono b.size)
  replace hf3 := hf3.mono (Nat.zero_le _)
  clear hb
  have hC := alikeB_any O_rc F3 n_rc c_rc 2 2 0 0 _ [⟨4, 7⟩, ⟨16, 20⟩] _ rc hf3
  rw [decide_eq_true rfl] at hC
  go_wp2_with fail
  refine (hC).mono ?_
  rintro e w14 ⟨rfl, hb⟩
  replace rc := rc.below hb
  replace rd := rd.below hb
  replace hf3 := hf3.below hb
  replace b := b.trans (hb.mono b.size)
  clear hb
  clear hC
  clear rc
  clear hf3
  replace rd := rd.alloc (.cells #[.int .i64 4, .int .i64 7, .int .i64 9, .int .i64 16] 24)
  have i1 := (SlAt.of_blk (enc := Bnd.cells) (s := 2) (Blk.new w14 24 #[.int .i64 4, .int .i64 7, .int .i64 9, .int .i64 16]) (fun _ => rfl) [⟨4, 7⟩, ⟨9, 16⟩] rfl (by decide)).mono (Nat.zero_le _)
  replace b := b.alloc b.size (.cells #[.int .i64 4, .int .i64 7, .int .i64 9, .int .i64 16] 24)
  have hC := alikeB_any O_rd _ n_rd c_rd 2 2 0 0 _ [⟨4, 7⟩, ⟨9, 16⟩] _ rd i1
  rw [decide_eq_true rfl] at hC
  go_wp2_with fail
  refine (hC).mono ?_
  rintro e w15 ⟨rfl, hb⟩
  replace rd := rd.below hb
  replace i1 := i1.below hb
  replace b := b.trans (hb.mono b.size)
  clear hb
  clear hC
  clear rd
  clear i1
  go_wp2_with fail
  refine (cable_any _).mono ?_
  rintro e w16 ⟨A5, rfl, hc5, hb⟩
  replace b := b.trans (hb.mono b.size)
  replace hc5 := hc5.mono (Nat.zero_le _)
  clear hb
  go_wp2_with fail
  refine (after_any _).mono ?_
  rintro e w17 ⟨F4, rfl, hf4, hb⟩
  replace hc5 := hc5.below hb
  replace b := b.trans (hb.mono b.size)
  replace hf4 := hf4.mono (Nat.zero_le _)
  clear hb
  have hC := Pulls_any cable0 A5 F4 2 2 2 2 0 0 [⟨4, 7⟩, ⟨16, 20⟩] 30 ⟨-10, 0⟩ _ hc5 hf4
  rw [show pullR cable0 [⟨4, 7⟩, ⟨16, 20⟩] 30 ⟨-10, 0⟩ = ([⟨4535, 8062⟩, ⟨2727, 4848⟩], 0) from by decide +kernel] at hC
  go_wp2_with fail
  refine (hC).mono ?_
  rintro e w18 ⟨O_rp, n_rp, c_rp, rfl, rp, hb⟩
  replace hc5 := hc5.below hb
  replace hf4 := hf4.below hb
  replace b := b.trans (hb.mono b.size)
  replace rp := rp.mono (Nat.zero_le _)
  clear hb
  clear hC
  clear hc5
  clear hf4
  replace rp := rp.alloc (.cells #[.int .i64 (-1), .int .i64 2, .int .i64 (-10), .int .i64 0] 46)
  have wh := (SlAt.of_blk (enc := Wat.cells) (s := 4) (Blk.new w18 46 #[.int .i64 (-1), .int .i64 2, .int .i64 (-10), .int .i64 0]) (fun _ => rfl) [⟨⟨-1, 2⟩, ⟨-10, 0⟩⟩] rfl (by decide)).mono (Nat.zero_le _)
  replace b := b.alloc b.size (.cells #[.int .i64 (-1), .int .i64 2, .int .i64 (-10), .int .i64 0] 46)
  replace rp := rp.alloc (.cells #[.int .i64 (-1), .int .i64 2, .int .i64 0, .int .i64 0] 46)
  replace wh := wh.alloc (.cells #[.int .i64 (-1), .int .i64 2, .int .i64 0, .int .i64 0] 46)
  have ws := (SlAt.of_blk (enc := Wat.cells) (s := 4) (Blk.new (w18.alloc (.cells #[.int .i64 (-1), .int .i64 2, .int .i64 (-10), .int .i64 0] 46)) 46 #[.int .i64 (-1), .int .i64 2, .int .i64 0, .int .i64 0]) (fun _ => rfl) [⟨⟨-1, 2⟩, ⟨0, 0⟩⟩] rfl (by decide)).mono (Nat.zero_le _)
  simp only [World.size_alloc] at ws
  replace b := b.alloc b.size (.cells #[.int .i64 (-1), .int .i64 2, .int .i64 0, .int .i64 0] 46)
  go_wp2_with fail
  refine (cable_any _).mono ?_
  rintro e w19 ⟨A6, rfl, hc6, hb⟩
  replace rp := rp.below hb
  replace wh := wh.below hb
  replace ws := ws.below hb
  replace b := b.trans (hb.mono b.size)
  replace hc6 := hc6.mono (Nat.zero_le _)
  clear hb
  go_wp2_with fail
  refine (first_any _).mono ?_
  rintro e w20 ⟨F5, rfl, hf5, hb⟩
  replace rp := rp.below hb
  replace wh := wh.below hb
  replace ws := ws.below hb
  replace hc6 := hc6.below hb
  replace b := b.trans (hb.mono b.size)
  replace hf5 := hf5.mono (Nat.zero_le _)
  clear hb
  replace rp := rp.alloc (.cells #[.int .i64 30] 3)
  replace wh := wh.alloc (.cells #[.int .i64 30] 3)
  replace ws := ws.alloc (.cells #[.int .i64 30] 3)
  replace hc6 := hc6.alloc (.cells #[.int .i64 30] 3)
  replace hf5 := hf5.alloc (.cells #[.int .i64 30] 3)
  have i1 := (SlAt.of_blk (enc := ivs) (s := 1) (Blk.new w20 3 #[.int .i64 30]) (fun _ => rfl) [(30 : Int)] rfl (by decide)).mono (Nat.zero_le _)
  replace b := b.alloc b.size (.cells #[.int .i64 30] 3)
  have hC := Watch_any cable0 A6 F5 _ _ 2 2 2 2 1 1 1 1 [⟨10, 10⟩, ⟨20, 24⟩] [⟨⟨-1, 2⟩, ⟨-10, 0⟩⟩] [30] _ hc6 hf5 wh i1
  rw [show watchR cable0 [⟨10, 10⟩, ⟨20, 24⟩] [⟨⟨-1, 2⟩, ⟨-10, 0⟩⟩] [30] = ((-1, 0), 0) from by decide +kernel] at hC
  go_wp2_with fail
  refine (hC).mono ?_
  rintro e w21 ⟨rfl, hb⟩
  replace rp := rp.below hb
  replace wh := wh.below hb
  replace ws := ws.below hb
  replace hc6 := hc6.below hb
  replace hf5 := hf5.below hb
  replace i1 := i1.below hb
  replace b := b.trans (hb.mono b.size)
  clear hb
  clear hC
  clear hc6
  clear hf5
  clear i1
  replace rp := rp.alloc (.cells #[.int .i64 (-1), .int .i64 0] 42)
  replace wh := wh.alloc (.cells #[.int .i64 (-1), .int .i64 0] 42)
  replace ws := ws.alloc (.cells #[.int .i64 (-1), .int .i64 0] 42)
  have kw := Blk.new w21 42 #[.int .i64 (-1), .int .i64 0]
  replace b := b.alloc b.size (.cells #[.int .i64 (-1), .int .i64 0] 42)
  obtain ⟨c_kw, f_kw, l_kw⟩ := kw.rules
  go_wp2_with fail
  refine (cable_any _).mono ?_
  rintro e w22 ⟨A7, rfl, hc7, hb⟩
  clear c_kw f_kw l_kw
  replace rp := rp.below hb
  replace wh := wh.below hb
  replace ws := ws.below hb
  replace kw := kw.below hb
  replace b := b.trans (hb.mono b.size)
  replace hc7 := hc7.mono (Nat.zero_le _)
  clear hb
  obtain ⟨c_kw, f_kw, l_kw⟩ := kw.rules
  go_wp2_with fail
  refine (first_any _).mono ?_
  rintro e w23 ⟨F6, rfl, hf6, hb⟩
  clear c_kw f_kw l_kw
  replace rp := rp.below hb
  replace wh := wh.below hb
  replace ws := ws.below hb
  replace hc7 := hc7.below hb
  replace kw := kw.below hb
  replace b := b.trans (hb.mono b.size)
  replace hf6 := hf6.mono (Nat.zero_le _)
  clear hb
  replace rp := rp.alloc (.cells #[.int .i64 20] 3)
  replace wh := wh.alloc (.cells #[.int .i64 20] 3)
  replace ws := ws.alloc (.cells #[.int .i64 20] 3)
  replace hc7 := hc7.alloc (.cells #[.int .i64 20] 3)
  replace hf6 := hf6.alloc (.cells #[.int .i64 20] 3)
  replace kw := kw.alloc (.cells #[.int .i64 20] 3)
  have i1 := (SlAt.of_blk (enc := ivs) (s := 1) (Blk.new w23 3 #[.int .i64 20]) (fun _ => rfl) [(20 : Int)] rfl (by decide)).mono (Nat.zero_le _)
  replace b := b.alloc b.size (.cells #[.int .i64 20] 3)
  have hC := Keeps_any cable0 A7 F6 _ _ 2 2 2 2 1 1 1 1 [⟨10, 10⟩, ⟨20, 24⟩] [⟨⟨-1, 2⟩, ⟨0, 0⟩⟩] [20] _ hc7 hf6 ws i1
  rw [show keepsR cable0 [⟨10, 10⟩, ⟨20, 24⟩] [⟨⟨-1, 2⟩, ⟨0, 0⟩⟩] [20] = (true, 0) from by decide +kernel] at hC
  obtain ⟨c_kw, f_kw, l_kw⟩ := kw.rules
  go_wp2_with fail
  refine (hC).mono ?_
  rintro e w24 ⟨rfl, hb⟩
  clear c_kw f_kw l_kw
  replace rp := rp.below hb
  replace wh := wh.below hb
  replace ws := ws.below hb
  replace hc7 := hc7.below hb
  replace hf6 := hf6.below hb
  replace i1 := i1.below hb
  replace kw := kw.below hb
  replace b := b.trans (hb.mono b.size)
  clear hb
  clear hC
  clear hc7
  clear hf6
  clear i1
  clear ws
  obtain ⟨c_kw, f_kw, l_kw⟩ := kw.rules
  go_wp2_with fail
  refine (cable_any _).mono ?_
  rintro e w25 ⟨A8, rfl, hc8, hb⟩
  clear c_kw f_kw l_kw
  replace rp := rp.below hb
  replace wh := wh.below hb
  replace kw := kw.below hb
  replace b := b.trans (hb.mono b.size)
  replace hc8 := hc8.mono (Nat.zero_le _)
  clear hb
  obtain ⟨c_kw, f_kw, l_kw⟩ := kw.rules
  go_wp2_with fail
  refine (first_any _).mono ?_
  rintro e w26 ⟨F7, rfl, hf7, hb⟩
  clear c_kw f_kw l_kw
  replace rp := rp.below hb
  replace wh := wh.below hb
  replace hc8 := hc8.below hb
  replace kw := kw.below hb
  replace b := b.trans (hb.mono b.size)
  replace hf7 := hf7.mono (Nat.zero_le _)
  clear hb
  replace rp := rp.alloc (.cells #[.int .i64 10, .int .i64 20, .int .i64 30] 3)
  replace wh := wh.alloc (.cells #[.int .i64 10, .int .i64 20, .int .i64 30] 3)
  replace hc8 := hc8.alloc (.cells #[.int .i64 10, .int .i64 20, .int .i64 30] 3)
  replace hf7 := hf7.alloc (.cells #[.int .i64 10, .int .i64 20, .int .i64 30] 3)
  replace kw := kw.alloc (.cells #[.int .i64 10, .int .i64 20, .int .i64 30] 3)
  have i1 := (SlAt.of_blk (enc := ivs) (s := 1) (Blk.new w26 3 #[.int .i64 10, .int .i64 20, .int .i64 30]) (fun _ => rfl) [(10 : Int), (20 : Int), (30 : Int)] rfl (by decide)).mono (Nat.zero_le _)
  replace b := b.alloc b.size (.cells #[.int .i64 10, .int .i64 20, .int .i64 30] 3)
  have hC := Fastest_any cable0 A8 F7 _ _ 2 2 2 2 1 1 3 3 [⟨10, 10⟩, ⟨20, 24⟩] [⟨⟨-1, 2⟩, ⟨-10, 0⟩⟩] [10, 20, 30] _ hc8 hf7 wh i1
  rw [show fastR cable0 [⟨10, 10⟩, ⟨20, 24⟩] [⟨⟨-1, 2⟩, ⟨-10, 0⟩⟩] [10, 20, 30] = ([1], 20, 0) from by decide +kernel] at hC
  obtain ⟨c_kw, f_kw, l_kw⟩ := kw.rules
  go_wp2_with fail
  refine (hC).mono ?_
  rintro e w27 ⟨O_rf, n_rf, c_rf, rfl, rf, hb⟩
  clear c_kw f_kw l_kw
  replace rp := rp.below hb
  replace wh := wh.below hb
  replace hc8 := hc8.below hb
  replace hf7 := hf7.below hb
  replace i1 := i1.below hb
  replace kw := kw.below hb
  replace b := b.trans (hb.mono b.size)
  replace rf := rf.mono (Nat.zero_le _)
  clear hb
  clear hC
  clear hc8
  clear hf7
  clear i1
  clear wh
  replace rp := rp.alloc (.cells #[.int .i64 4535, .int .i64 8062, .int .i64 2727, .int .i64 4848] 24)
  replace rf := rf.alloc (.cells #[.int .i64 4535, .int .i64 8062, .int .i64 2727, .int .i64 4848] 24)
  replace kw := kw.alloc (.cells #[.int .i64 4535, .int .i64 8062, .int .i64 2727, .int .i64 4848] 24)
  have i1 := (SlAt.of_blk (enc := Bnd.cells) (s := 2) (Blk.new w27 24 #[.int .i64 4535, .int .i64 8062, .int .i64 2727, .int .i64 4848]) (fun _ => rfl) [⟨4535, 8062⟩, ⟨2727, 4848⟩] rfl (by decide)).mono (Nat.zero_le _)
  replace b := b.alloc b.size (.cells #[.int .i64 4535, .int .i64 8062, .int .i64 2727, .int .i64 4848] 24)
  have hC := alikeB_any O_rp _ n_rp c_rp 2 2 0 0 _ [⟨4535, 8062⟩, ⟨2727, 4848⟩] _ rp i1
  rw [decide_eq_true rfl] at hC
  obtain ⟨c_kw, f_kw, l_kw⟩ := kw.rules
  go_wp2_with fail
  refine (hC).mono ?_
  rintro e w28 ⟨rfl, hb⟩
  clear c_kw f_kw l_kw
  replace rp := rp.below hb
  replace rf := rf.below hb
  replace i1 := i1.below hb
  replace kw := kw.below hb
  replace b := b.trans (hb.mono b.size)
  clear hb
  clear hC
  clear rp
  clear i1
  obtain ⟨cq, fq, lq⟩ := kw.rules
  replace rf := rf.alloc (.cells #[.int .i64 1] 3)
  replace kw := kw.alloc (.cells #[.int .i64 1] 3)
  have i1 := (SlAt.of_blk (enc := ivs) (s := 1) (Blk.new w28 3 #[.int .i64 1]) (fun _ => rfl) [(1 : Int)] rfl (by decide)).mono (Nat.zero_le _)
  replace b := b.alloc b.size (.cells #[.int .i64 1] 3)
  have hC := Alike_any O_rf _ n_rf c_rf 1 1 0 0 _ [1] _ rf i1
  rw [decide_eq_true rfl] at hC
  obtain ⟨c_kw, f_kw, l_kw⟩ := kw.rules
  go_wp2_with fail
  refine (hC).mono ?_
  rintro e w29 ⟨rfl, hb⟩
  clear c_kw f_kw l_kw
  replace rf := rf.below hb
  replace i1 := i1.below hb
  replace kw := kw.below hb
  replace b := b.trans (hb.mono b.size)
  clear hb
  clear hC
  clear rf
  clear i1
  clear kw
  go_wp2_with fail
  refine (cable_any _).mono ?_
  rintro e w30 ⟨A9, rfl, hc9, hb⟩
  replace b := b.trans (hb.mono b.size)
  replace hc9 := hc9.mono (Nat.zero_le _)
  clear hb
  go_wp2_with fail
  refine (after_any _).mono ?_
  rintro e w31 ⟨F8, rfl, hf8, hb⟩
  replace hc9 := hc9.below hb
  replace b := b.trans (hb.mono b.size)
  replace hf8 := hf8.mono (Nat.zero_le _)
  clear hb
  have hC := Nodes_any cable0 A9 F8 2 2 2 2 0 0 [⟨4, 7⟩, ⟨16, 20⟩] _ hc9 hf8
  rw [nodes0] at hC
  go_wp2_with fail
  refine (hC).mono ?_
  rintro e w32 ⟨O_rn, n_rn, c_rn, rfl, rn, hb⟩
  replace hc9 := hc9.below hb
  replace hf8 := hf8.below hb
  replace b := b.trans (hb.mono b.size)
  replace rn := rn.mono (Nat.zero_le _)
  clear hb
  clear hC
  clear hc9
  clear hf8
  have hC := fun W => Turned_any ⟨⟨-100, -99⟩, ⟨4, 7⟩, ⟨-200, 200⟩, ⟨-200, 200⟩⟩ ⟨3, 4, 5⟩ W
  rw [turned0] at hC
  simp only [regA] at hC
  go_wp2_with fail
  refine (hC _).mono ?_
  rintro e w33 ⟨rfl, hb⟩
  replace rn := rn.below hb
  replace b := b.trans (hb.mono b.size)
  clear hb
  clear hC
  obtain rfl : n_rn = 2 := rn.len.symm
  replace rn := rn.alloc (.cells #[.int .i64 (-66), .int .i64 (-62), .int .i64 (-78), .int .i64 (-75), .int .i64 (-142), .int .i64 (-139), .int .i64 10, .int .i64 15] 58)
  have kt := Blk.new w33 58 #[.int .i64 (-66), .int .i64 (-62), .int .i64 (-78), .int .i64 (-75), .int .i64 (-142), .int .i64 (-139), .int .i64 10, .int .i64 15]
  replace b := b.alloc b.size (.cells #[.int .i64 (-66), .int .i64 (-62), .int .i64 (-78), .int .i64 (-75), .int .i64 (-142), .int .i64 (-139), .int .i64 10, .int .i64 15] 58)
  obtain ⟨bn, on, hA, -, -, x0, x1, -⟩ := rn.reg (k := 0) rfl
  obtain ⟨bn2, on2, hA2, -, -, y0, y1, y2, y3, -⟩ := rn.reg (k := 1) rfl
  subst hA
  cases hA2
  simp only [Nat.zero_mul, Nat.one_mul, Nat.add_zero] at x0 x1 y0 y1 y2 y3
  obtain ⟨c_kt, f_kt, l_kt⟩ := kt.rules
  go_wp2
  go_ret
  exact ⟨rfl, b⟩
end Go.Proofs.YthjdjpcomocffaaGreat
