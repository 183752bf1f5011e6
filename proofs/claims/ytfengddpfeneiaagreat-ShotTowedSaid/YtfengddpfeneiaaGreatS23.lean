/-
  Shots, walks: the search of Losses, which calls itself.
-/
import Derived.Test.YtfengddpfeneiaaGreatS22
namespace Go.Proofs.YtfengddpfeneiaaGreat
open Go.RowKit Go.Shelf
set_option linter.unusedSimpArgs false
set_option linter.unusedVariables false
attribute [local irreducible] wpStill

theorem Tryz.infoSl : (Tryz.prog.info? 36).map (fun i => (i.zero, i.size, i.bytes)) = some (some (.slice none 0 0), 1, 24) := by kernel_rfl
theorem wp_till_npS {P : Program} {ops : Array Oper} {Q : Exit → Act → World → Prop} {id : Nat} {a : Act} {w : World} (S : World → Prop) (n0 : Nat) (hm : P.follows .mixedOrders = true)
    (h : anyTill P .any ops (noPanic Q) S n0 ops.size (Array.replicate ops.size false) a w.drew) : (Code.region id ops true).wp P Q a w :=
  Code.wp_mono (fun e a w q => by cases e <;> first | exact q | exact q.elim) (wp_region_any hm (wpAny_of_till _ _ _ _ h))
/-- Where the variables of Losses lie. -/
structure SrB where
  gc : Nat
  ga : Nat
  gn : Nat
  gl : Nat
  g : Nat
  gs : Nat
def SrB.caps (b : SrB) : Array Value := #[.pointer (some ⟨b.gc, 0, none⟩), .pointer (some ⟨b.ga, 0, none⟩), .pointer (some ⟨b.gn, 0, none⟩), .pointer (some ⟨b.gl, 0, none⟩), .pointer (some ⟨b.g, 0, none⟩), .pointer (some ⟨b.gs, 0, none⟩)]
def inLow (B0 g : Nat) (A : Option Addr) : Prop := ∀ b o, A = some ⟨b, o, none⟩ → b < B0 ∧ b ≠ g
structure SrN (b : SrB) (B0 : Nat) (A S N : Option Addr) : Prop where
  nc : b.gc < B0 ∧ b.gc ≠ b.g
  na : b.ga < B0 ∧ b.ga ≠ b.g
  nn : b.gn < B0 ∧ b.gn ≠ b.g
  nl : b.gl < B0 ∧ b.gl ≠ b.g
  ns : b.gs < B0 ∧ b.gs ≠ b.g
  ng : b.g < B0
  lA : inLow B0 b.g A
  lS : inLow B0 b.g S
  lN : inLow B0 b.g N
/-- What the search leans on. -/
structure SrL (b : SrB) (a : Arr) (limit : Int) (A S N : Option Addr) (n ca ns cs cn : Nat) (W : World) : Prop where
  kc : Blk W b.gc 134 #[.func (.func 95) #[] #[.pointer (some ⟨b.g, 0, none⟩)]]
  ka : Blk W b.ga 159 #[.slice A n ca]
  kn : Blk W b.gn 36 #[.slice N n cn]
  kl : Blk W b.gl 3 #[.int .i64 limit]
  ks : Blk W b.gs 175 #[.func (.func 97) #[] b.caps]
  hA : SlAt W 0 5 (plc S ns cs) A n ca a.gs
  hS : SlAt W 0 1 ivs S ns cs a.sh
  hN : SlAt W 0 1 ivs N n cn (onL a)
section
variable {b : SrB} {a : Arr} {limit : Int} {A S N : Option Addr} {n ca ns cs cn B0 : Nat} {W W' : World}
theorem SrL.keep (h : SrL b a limit A S N n ca ns cs cn W) (hn : SrN b B0 A S N) (hs : W.heap.size ≤ W'.heap.size) (hk : ∀ k, k < B0 → k ≠ b.g → W'.heap[k]? = W.heap[k]?) : SrL b a limit A S N n ca ns cs cn W' :=
  ⟨(hk _ hn.nc.1 hn.nc.2).trans h.kc, (hk _ hn.na.1 hn.na.2).trans h.ka, (hk _ hn.nn.1 hn.nn.2).trans h.kn, (hk _ hn.nl.1 hn.nl.2).trans h.kl, (hk _ hn.ns.1 hn.ns.2).trans h.ks,
    h.hA.keepB hs (fun q o e => hk _ (hn.lA q o e).1 (hn.lA q o e).2), h.hS.keepB hs (fun q o e => hk _ (hn.lS q o e).1 (hn.lS q o e).2), h.hN.keepB hs (fun q o e => hk _ (hn.lN q o e).1 (hn.lN q o e).2)⟩
theorem SrL.below (h : SrL b a limit A S N n ca ns cs cn W) (hb : Below W.heap.size W W') : SrL b a limit A S N n ca ns cs cn W' :=
  ⟨h.kc.below hb, h.ka.below hb, h.kn.below hb, h.kl.below hb, h.ks.below hb, h.hA.below hb, h.hS.below hb, h.hN.below hb⟩
end
/-- What a call of the search has done. -/
def SrPost (b : SrB) (B0 : Nat) (O : Option Addr) (no co : Nat) (L' : List (List Int)) (add : Nat) (w : World) (e : Ending) (w' : World) : Prop :=
  (∃ v, e = .returned v) ∧ ∃ O' no' co', OutI w' b.g B0 O' no' co' L' ∧ SrFr b.g (Value.slice O no co).ownBlock w w' ∧ (∀ q, (Value.slice O' no' co').ownBlock = some q → (Value.slice O no co).ownBlock = some q ∨ w.heap.size ≤ q) ∧ no' ≤ no + add
def SrFor (b : SrB) (a : Arr) (limit : Int) (A S N : Option Addr) (n ca ns cs cn B0 : Nat) (m : Nat) : Prop :=
  ∀ (loss : List Int) (D : Option Addr) (nd cd fr : Nat) (L : List (List Int)) (O : Option Addr) (no co : Nat) (w : World), SrL b a limit A S N n ca ns cs cn w → OutI w b.g B0 O no co L → SlAt w 0 1 ivs D nd cd loss →
    (0 < nd → ∀ q o, D = some ⟨q, o, none⟩ → q ≠ b.g ∧ (Value.slice O no co).ownBlock ≠ some q) → 1 ≤ nd + m → nd + m ≤ 8 → fr ≤ 100 → B0 ≤ w.heap.size → no + 8 ^ m ≤ 100000 →
    Calls Tryz.prog 97 (#[.slice D nd cd, .int .i64 (fr : Int), .int .i64 (m : Int)] ++ b.caps) w (SrPost b B0 O no co (srchS a limit m fr loss L) (8 ^ m) w)
set_option maxRecDepth 100000 in
set_option maxHeartbeats 4000000 in
theorem search_zero (b : SrB) (a : Arr) (ha : okArr a = true) (limit : Int) (A S N : Option Addr) (n ca ns cs cn B0 : Nat) (hn : SrN b B0 A S N) : SrFor b a limit A S N n ca ns cs cn B0 0 := by
  intro loss D nd cd fr L O no co w hL hO hD hDr h1 h8 hfr hB hno
  obtain ⟨gc, ga, gn, gl, g, gs⟩ := b
  simp only [SrB.caps]
  have hls := Lib.hid hL
  obtain ⟨kc, ka, kn, kl, ks, hA, hS, hN⟩ := hL
  dsimp only at kc ka kn kl ks hO hDr
  have hsr : Hid (srchS a limit 0 fr loss L = if holdsOne L loss = true then L else if limit < misS a (onL a) loss then L ++ [loss] else L) := by show _ = _; rfl
  have hct := fun W h1 h2 => lcontains_any g B0 O D no co nd cd L loss W h1 h2 (by omega)
  have hsig := fun W (h1 : SlAt W 0 5 (plc S ns cs) A n ca a.gs) (h2 : SlAt W 0 1 ivs S ns cs a.sh) (h3 : SlAt W 0 1 ivs N n cn (onL a)) (h4 : SlAt W 0 1 ivs D nd cd loss) => signature_any a ha (onL a) loss (onL_isDel a) A S N D n ca ns cs cn nd cd 0 0 0 0 W h1 h2 h3 h4
  have hmis := fun W M cm B (h1 : SlAt W 0 5 (plc S ns cs) A n ca a.gs) (h2 : SlAt W 0 1 ivs S ns cs a.sh) (h3 : SlAt W B 1 ivs M (ns + 48) cm (sigL a (onL a) loss)) => misfit_any a ha (sigL a (onL a) loss) (fun t => sigL_bd ha (onL a) loss t) A S M n ca ns cs cm 0 0 B W h1 h2 h3
  rw [show misL a (sigL a (onL a) loss) = misS a (onL a) loss from rfl] at hmis
  show Calls Tryz.prog 97 #[.slice D nd cd, .int .i64 (fr : Int), .int .i64 0, .pointer (some ⟨gc, 0, none⟩), .pointer (some ⟨ga, 0, none⟩), .pointer (some ⟨gn, 0, none⟩), .pointer (some ⟨gl, 0, none⟩), .pointer (some ⟨g, 0, none⟩), .pointer (some ⟨gs, 0, none⟩)] w _
  go_enter Tryz.func97, Tryz.ntmps97
  go_wp2_with fail
  refine wp_held_np (fun w' : World => (∀ j, w'.cell? ⟨gc, j, none⟩ = #[Value.func (.func 95) #[] #[.pointer (some ⟨g, 0, none⟩)]][j]?) ∧ (∀ j, w'.cell? ⟨ga, j, none⟩ = #[Value.slice A n ca][j]?) ∧ (∀ j, w'.cell? ⟨gn, j, none⟩ = #[Value.slice N n cn][j]?) ∧ (∀ j, w'.cell? ⟨gl, j, none⟩ = #[Value.int .i64 limit][j]?)) (by kernel_rfl) ?_
  have hSx : (fun w' : World => (∀ j, w'.cell? ⟨gc, j, none⟩ = #[Value.func (.func 95) #[] #[.pointer (some ⟨g, 0, none⟩)]][j]?) ∧ (∀ j, w'.cell? ⟨ga, j, none⟩ = #[Value.slice A n ca][j]?) ∧ (∀ j, w'.cell? ⟨gn, j, none⟩ = #[Value.slice N n cn][j]?) ∧ (∀ j, w'.cell? ⟨gl, j, none⟩ = #[Value.int .i64 limit][j]?)) w.drew := ⟨kc.drew.cell, ka.drew.cell, kn.drew.cell, kl.drew.cell⟩
  have hb : Below w.heap.size w w.drew := (Below.refl _ _).drew
  have hOd : OutI w.drew g B0 O no co L := hO.below ((Below.refl _ _).drew)
  generalize w.drew = W1 at *
  refine held_take (i := 0) (v := ?_) 15 rfl rfl (by kernel_rfl) (by kernel_rfl) (by kernel_rfl) (fun _ _ _ h => h) (Or.inl ⟨by rfl, ?_⟩) hSx ?_
  rotate_left 1
  · intro w' hSw
    try dsimp only at hSw
    obtain ⟨q1, q2, q3, q4⟩ := hSw
    go_simp
    all_goals with_reducible rfl
  try simp only [Act.put, List.setIfInBounds_toArray, List.set_cons_zero, List.set_cons_succ]
  refine held_take (i := 1) (v := ?_) 16 rfl rfl (by kernel_rfl) (by kernel_rfl) (by kernel_rfl) (fun _ _ _ h => h) (Or.inl ⟨by rfl, ?_⟩) hSx ?_
  rotate_left 1
  · intro w' hSw
    try dsimp only at hSw
    obtain ⟨q1, q2, q3, q4⟩ := hSw
    go_simp
    all_goals with_reducible rfl
  try simp only [Act.put, List.setIfInBounds_toArray, List.set_cons_zero, List.set_cons_succ]
  have hDd : SlAt W1 0 1 ivs D nd cd loss := hD.below hb
  refine held_one (i := 2) (by kernel_rfl) rfl rfl (fun K hK => ?_)
  go_simp
  refine (hct _ hOd hDd).mono ?_
  rintro e W2 ⟨rfl, hb2⟩
  clear hct hSx
  replace kc := (kc.below hb).below hb2
  replace ka := (ka.below hb).below hb2
  replace kn := (kn.below hb).below hb2
  replace kl := (kl.below hb).below hb2
  replace hA := (hA.below hb).below hb2
  replace hS := (hS.below hb).below hb2
  replace hN := (hN.below hb).below hb2
  replace hDd := hDd.below hb2
  replace hOd := hOd.below hb2
  replace hb := hb.trans (hb2.mono hb.size)
  clear hb2
  have hSx : (fun w' : World => (∀ j, w'.cell? ⟨gc, j, none⟩ = #[Value.func (.func 95) #[] #[.pointer (some ⟨g, 0, none⟩)]][j]?) ∧ (∀ j, w'.cell? ⟨ga, j, none⟩ = #[Value.slice A n ca][j]?) ∧ (∀ j, w'.cell? ⟨gn, j, none⟩ = #[Value.slice N n cn][j]?) ∧ (∀ j, w'.cell? ⟨gl, j, none⟩ = #[Value.int .i64 limit][j]?)) W2 := ⟨kc.cell, ka.cell, kn.cell, kl.cell⟩
  refine hK _ _ hSx ?_
  clear hK K
  try simp only [Act.put, List.setIfInBounds_toArray, List.set_cons_zero, List.set_cons_succ]
  cases hh : holdsOne L loss with
  | true =>
    rw [hh, if_pos rfl] at hsr
    refine held_take (i := 3) (v := ?_) 18 rfl rfl (by kernel_rfl) (by kernel_rfl) (by kernel_rfl) (fun _ _ _ h => h) (Or.inl ⟨by rfl, ?_⟩) hSx ?_
    rotate_left 1
    · intro w' hSw
      try dsimp only at hSw
      obtain ⟨q1, q2, q3, q4⟩ := hSw
      go_simp
      all_goals with_reducible rfl
    try simp only [Act.put, List.setIfInBounds_toArray, List.set_cons_zero, List.set_cons_succ]
    refine held_take (i := 4) (v := ?_) 19 rfl rfl (by kernel_rfl) (by kernel_rfl) (by kernel_rfl) (fun _ _ _ h => h) (Or.inl ⟨by rfl, ?_⟩) hSx ?_
    rotate_left 1
    · intro w' hSw
      try dsimp only at hSw
      obtain ⟨q1, q2, q3, q4⟩ := hSw
      go_simp
      all_goals with_reducible rfl
    try simp only [Act.put, List.setIfInBounds_toArray, List.set_cons_zero, List.set_cons_succ]
    refine held_take (i := 5) (v := undef) 20 rfl rfl (by kernel_rfl) (by kernel_rfl) (by kernel_rfl) (fun _ _ _ h => h) (Or.inr ⟨by rfl, rfl⟩) hSx ?_
    try simp only [Act.put, List.setIfInBounds_toArray, List.set_cons_zero, List.set_cons_succ]
    refine held_take (i := 6) (v := undef) 21 rfl rfl (by kernel_rfl) (by kernel_rfl) (by kernel_rfl) (fun _ _ _ h => h) (Or.inr ⟨by rfl, rfl⟩) hSx ?_
    try simp only [Act.put, List.setIfInBounds_toArray, List.set_cons_zero, List.set_cons_succ]
    refine held_take (i := 7) (v := undef) 22 rfl rfl (by kernel_rfl) (by kernel_rfl) (by kernel_rfl) (fun _ _ _ h => h) (Or.inr ⟨by rfl, rfl⟩) hSx ?_
    try simp only [Act.put, List.setIfInBounds_toArray, List.set_cons_zero, List.set_cons_succ]
    refine held_take (i := 8) (v := undef) 23 rfl rfl (by kernel_rfl) (by kernel_rfl) (by kernel_rfl) (fun _ _ _ h => h) (Or.inr ⟨by rfl, rfl⟩) hSx ?_
    try simp only [Act.put, List.setIfInBounds_toArray, List.set_cons_zero, List.set_cons_succ]
    refine held_take (i := 9) (v := undef) 24 rfl rfl (by kernel_rfl) (by kernel_rfl) (by kernel_rfl) (fun _ _ _ h => h) (Or.inr ⟨by rfl, rfl⟩) hSx ?_
    try simp only [Act.put, List.setIfInBounds_toArray, List.set_cons_zero, List.set_cons_succ]
    refine held_take (i := 10) (v := undef) 25 rfl rfl (by kernel_rfl) (by kernel_rfl) (by kernel_rfl) (fun _ _ _ h => h) (Or.inr ⟨by rfl, rfl⟩) hSx ?_
    try simp only [Act.put, List.setIfInBounds_toArray, List.set_cons_zero, List.set_cons_succ]
    refine held_take (i := 11) (v := undef) 26 rfl rfl (by kernel_rfl) (by kernel_rfl) (by kernel_rfl) (fun _ _ _ h => h) (Or.inr ⟨by rfl, rfl⟩) hSx ?_
    try simp only [Act.put, List.setIfInBounds_toArray, List.set_cons_zero, List.set_cons_succ]
    refine held_take (i := 12) (v := undef) 27 rfl rfl (by kernel_rfl) (by kernel_rfl) (by kernel_rfl) (fun _ _ _ h => h) (Or.inr ⟨by rfl, rfl⟩) hSx ?_
    try simp only [Act.put, List.setIfInBounds_toArray, List.set_cons_zero, List.set_cons_succ]
    refine held_take (i := 13) (v := ?_) 28 rfl rfl (by kernel_rfl) (by kernel_rfl) (by kernel_rfl) (fun _ _ _ h => h) (Or.inl ⟨by rfl, ?_⟩) hSx ?_
    rotate_left 1
    · intro w' hSw
      try dsimp only at hSw
      obtain ⟨q1, q2, q3, q4⟩ := hSw
      go_simp
      all_goals with_reducible rfl
    try simp only [Act.put, List.setIfInBounds_toArray, List.set_cons_zero, List.set_cons_succ]
    refine wpAnyH_done (by kernel_rfl) (noPanic_normal ?_) _
    clear hSx
    replace hh := Lib.hid hh
    go_wp2_with fail
    refine bodyPost_ret (results_none rfl _ _ _) rfl ?_
    exact ⟨⟨_, rfl⟩, O, no, co, by rw [hsr.out]; exact hOd, SrFr.of_below hb, fun q e => .inl e, by omega⟩
  | false =>
    rw [hh, if_neg (by simp)] at hsr
    refine held_take (i := 3) (v := ?_) 18 rfl rfl (by kernel_rfl) (by kernel_rfl) (by kernel_rfl) (fun _ _ _ h => h) (Or.inl ⟨by rfl, ?_⟩) hSx ?_
    rotate_left 1
    · intro w' hSw
      try dsimp only at hSw
      obtain ⟨q1, q2, q3, q4⟩ := hSw
      go_simp
      all_goals with_reducible rfl
    try simp only [Act.put, List.setIfInBounds_toArray, List.set_cons_zero, List.set_cons_succ]
    refine held_take (i := 4) (v := ?_) 19 rfl rfl (by kernel_rfl) (by kernel_rfl) (by kernel_rfl) (fun _ _ _ h => h) (Or.inl ⟨by rfl, ?_⟩) hSx ?_
    rotate_left 1
    · intro w' hSw
      try dsimp only at hSw
      obtain ⟨q1, q2, q3, q4⟩ := hSw
      go_simp
      all_goals with_reducible rfl
    try simp only [Act.put, List.setIfInBounds_toArray, List.set_cons_zero, List.set_cons_succ]
    refine held_take (i := 5) (v := ?_) 20 rfl rfl (by kernel_rfl) (by kernel_rfl) (by kernel_rfl) (fun _ _ _ h => h) (Or.inl ⟨by rfl, ?_⟩) hSx ?_
    rotate_left 1
    · intro w' hSw
      try dsimp only at hSw
      obtain ⟨q1, q2, q3, q4⟩ := hSw
      go_simp
      all_goals with_reducible rfl
    try simp only [Act.put, List.setIfInBounds_toArray, List.set_cons_zero, List.set_cons_succ]
    refine held_take (i := 6) (v := ?_) 21 rfl rfl (by kernel_rfl) (by kernel_rfl) (by kernel_rfl) (fun _ _ _ h => h) (Or.inl ⟨by rfl, ?_⟩) hSx ?_
    rotate_left 1
    · intro w' hSw
      try dsimp only at hSw
      obtain ⟨q1, q2, q3, q4⟩ := hSw
      go_simp
      all_goals with_reducible rfl
    try simp only [Act.put, List.setIfInBounds_toArray, List.set_cons_zero, List.set_cons_succ]
    refine held_take (i := 7) (v := ?_) 22 rfl rfl (by kernel_rfl) (by kernel_rfl) (by kernel_rfl) (fun _ _ _ h => h) (Or.inl ⟨by rfl, ?_⟩) hSx ?_
    rotate_left 1
    · intro w' hSw
      try dsimp only at hSw
      obtain ⟨q1, q2, q3, q4⟩ := hSw
      go_simp
      all_goals with_reducible rfl
    try simp only [Act.put, List.setIfInBounds_toArray, List.set_cons_zero, List.set_cons_succ]
    refine held_take (i := 8) (v := ?_) 23 rfl rfl (by kernel_rfl) (by kernel_rfl) (by kernel_rfl) (fun _ _ _ h => h) (Or.inl ⟨by rfl, ?_⟩) hSx ?_
    rotate_left 1
    · intro w' hSw
      try dsimp only at hSw
      obtain ⟨q1, q2, q3, q4⟩ := hSw
      go_simp
      all_goals with_reducible rfl
    try simp only [Act.put, List.setIfInBounds_toArray, List.set_cons_zero, List.set_cons_succ]
    refine held_take (i := 11) (v := ?_) 26 rfl rfl (by kernel_rfl) (by kernel_rfl) (by kernel_rfl) (fun _ _ _ h => h) (Or.inl ⟨by rfl, ?_⟩) hSx ?_
    rotate_left 1
    · intro w' hSw
      try dsimp only at hSw
      obtain ⟨q1, q2, q3, q4⟩ := hSw
      go_simp
      all_goals with_reducible rfl
    try simp only [Act.put, List.setIfInBounds_toArray, List.set_cons_zero, List.set_cons_succ]
    refine held_one (i := 9) (by kernel_rfl) rfl (by rfl) (fun K hK => ?_)
    go_simp
    refine (hsig _ hA hS hN hDd).mono ?_
    rintro e W3 ⟨M, cm, rfl, hM, hb3⟩
    clear hsig hSx
    replace kc := kc.below hb3
    replace ka := ka.below hb3
    replace kn := kn.below hb3
    replace kl := kl.below hb3
    replace hA := hA.below hb3
    replace hS := hS.below hb3
    replace hDd := hDd.below hb3
    replace hOd := hOd.below hb3
    replace hb := hb.trans (hb3.mono hb.size)
    clear hb3
    have hSx : (fun w' : World => (∀ j, w'.cell? ⟨gc, j, none⟩ = #[Value.func (.func 95) #[] #[.pointer (some ⟨g, 0, none⟩)]][j]?) ∧ (∀ j, w'.cell? ⟨ga, j, none⟩ = #[Value.slice A n ca][j]?) ∧ (∀ j, w'.cell? ⟨gn, j, none⟩ = #[Value.slice N n cn][j]?) ∧ (∀ j, w'.cell? ⟨gl, j, none⟩ = #[Value.int .i64 limit][j]?)) W3 := ⟨kc.cell, ka.cell, kn.cell, kl.cell⟩
    refine hK _ _ hSx ?_
    clear hK K
    try simp only [Act.put, List.setIfInBounds_toArray, List.set_cons_zero, List.set_cons_succ]
    refine held_one (i := 10) (by kernel_rfl) rfl (by rfl) (fun K hK => ?_)
    go_simp
    refine (hmis _ M cm _ hA hS hM).mono ?_
    rintro e W4 ⟨rfl, hb4⟩
    clear hmis hSx
    replace kc := kc.below hb4
    replace ka := ka.below hb4
    replace kn := kn.below hb4
    replace kl := kl.below hb4
    replace hDd := hDd.below hb4
    replace hOd := hOd.below hb4
    replace hb := hb.trans (hb4.mono hb.size)
    clear hb4 hA hS hN hM
    have hSx : (fun w' : World => (∀ j, w'.cell? ⟨gc, j, none⟩ = #[Value.func (.func 95) #[] #[.pointer (some ⟨g, 0, none⟩)]][j]?) ∧ (∀ j, w'.cell? ⟨ga, j, none⟩ = #[Value.slice A n ca][j]?) ∧ (∀ j, w'.cell? ⟨gn, j, none⟩ = #[Value.slice N n cn][j]?) ∧ (∀ j, w'.cell? ⟨gl, j, none⟩ = #[Value.int .i64 limit][j]?)) W4 := ⟨kc.cell, ka.cell, kn.cell, kl.cell⟩
    refine hK _ _ hSx ?_
    clear hK K
    try simp only [Act.put, List.setIfInBounds_toArray, List.set_cons_zero, List.set_cons_succ]
    refine held_take (i := 12) (v := ?_) 27 rfl rfl (by kernel_rfl) (by kernel_rfl) (by kernel_rfl) (fun _ _ _ h => h) (Or.inl ⟨by rfl, ?_⟩) hSx ?_
    rotate_left 1
    · intro w' hSw
      try dsimp only at hSw
      obtain ⟨q1, q2, q3, q4⟩ := hSw
      go_simp
      all_goals with_reducible rfl
    try simp only [Act.put, List.setIfInBounds_toArray, List.set_cons_zero, List.set_cons_succ]
    refine held_take (i := 13) (v := ?_) 28 rfl rfl (by kernel_rfl) (by kernel_rfl) (by kernel_rfl) (fun _ _ _ h => h) (Or.inl ⟨by rfl, ?_⟩) hSx ?_
    rotate_left 1
    · intro w' hSw
      try dsimp only at hSw
      obtain ⟨q1, q2, q3, q4⟩ := hSw
      go_simp
      all_goals with_reducible rfl
    try simp only [Act.put, List.setIfInBounds_toArray, List.set_cons_zero, List.set_cons_succ]
    refine wpAnyH_done (by kernel_rfl) (noPanic_normal ?_) _
    clear hSx kc ka kn kl
    replace hh := Lib.hid hh
    obtain ⟨ms, hms⟩ : ∃ ms, misS a (onL a) loss = ms := ⟨_, rfl⟩
    rw [hms] at hsr
    rw [hms]
    replace hms := Lib.hid hms
    by_cases hlt : limit < ms
    · rw [if_pos hlt] at hsr
      have hgt : ms > limit := hlt
      have hcl := fun W h => CloneI_any loss D nd cd 0 W (by omega) h
      obtain ⟨kg, hlen, vs, hown, hel⟩ := hOd
      obtain ⟨i0, hi0, hz0, hz1, hz2⟩ := info_parts Tryz.infoSl
      have hng := hn.ng
      dsimp only at hng
      go_wp2_with fail
      refine wp_till_npS (fun w' : World => (∀ j, w'.cell? ⟨g, j, none⟩ = #[Value.slice O no co][j]?) ∧ True) 5 (by kernel_rfl) ?_
      have hSx : (fun w' : World => (∀ j, w'.cell? ⟨g, j, none⟩ = #[Value.slice O no co][j]?) ∧ True) W4.drew := ⟨kg.drew.cell, trivial⟩
      have hbd : Below W4.heap.size W4 W4.drew := (Below.refl _ _).drew
      replace kg := kg.below hbd
      replace hDd := hDd.below hbd
      replace hown := ownsRow_below hown hbd
      replace hb := hb.trans (hbd.mono hb.size)
      have hel2 : ∀ (i : Nat) (v : Value) (l : List Int), vs[i]? = some v → L[i]? = some l → ElmAt W4.drew B0 (Value.slice O no co).ownBlock v l := fun i v l hv hl => (hel i v l hv hl).keep hbd.size fun b _ hlt _ => hbd.block b hlt
      clear hel hbd
      generalize W4.drew = W5 at *
      refine till_taked (i := 0) (v := ?_) 29 rfl rfl (by kernel_rfl) (by kernel_rfl) (by kernel_rfl) (by kernel_rfl) (by kernel_rfl) (by kernel_rfl) (fun _ _ _ h => h) (Or.inl ⟨by rfl, ?_⟩) hSx ?_
      rotate_left 1
      · intro w' hSw
        try dsimp only at hSw
        obtain ⟨q1, q2⟩ := hSw
        go_simp
        all_goals with_reducible rfl
      try simp only [Act.put, List.setIfInBounds_toArray, List.set_cons_zero, List.set_cons_succ]
      refine till_taked (i := 1) (v := ?_) 30 rfl rfl (by kernel_rfl) (by kernel_rfl) (by kernel_rfl) (by kernel_rfl) (by kernel_rfl) (by kernel_rfl) (fun _ _ _ h => h) (Or.inl ⟨by rfl, ?_⟩) hSx ?_
      rotate_left 1
      · intro w' hSw
        try dsimp only at hSw
        obtain ⟨q1, q2⟩ := hSw
        go_simp
        all_goals with_reducible rfl
      try simp only [Act.put, List.setIfInBounds_toArray, List.set_cons_zero, List.set_cons_succ]
      refine till_one (i := 2) (by kernel_rfl) rfl rfl (fun K hK => ?_)
      go_simp
      refine (hcl _ hDd).mono ?_
      rintro e W6 ⟨v, rfl, hownc, hb6⟩
      clear hcl hSx
      rcases hownc.2 with ⟨-, h⟩ | ⟨g9, cap, cur, rfl, hg9, -⟩
      · omega
      have hg9b := hownc.lt g9 rfl
      have hrw : ∀ q, (Value.slice O no co).ownBlock = some q → q < W5.heap.size := fun q e => (hown.lt q e).2
      have hsz5 := hb.size
      have hg5 := kg.lt
      have hSn := SlAt.ownQ (enc := ivs) hownc (by omega) loss rfl (fun _ => rfl) hDd.len
      have hk6 : ∀ q, q < W5.heap.size → W6.heap[q]? = W5.heap[q]? := fun q hq => hb6.block q hq
      have hs6 := hb6.size
      replace kg := kg.below hb6
      replace hown := ownsRow_below hown hb6
      refine hK _ _ (fun _ => ⟨kg.cell, trivial⟩) ?_
      clear hK K
      try simp only [Act.put, List.setIfInBounds_toArray, List.set_cons_zero, List.set_cons_succ]
      refine till_one (i := 3) (by kernel_rfl) rfl rfl (fun K hK => ?_)
      go_simp
      have kga := kg.alloc (.cells #[.slice (some ⟨g9, 0, none⟩) nd cap] 36)
      have hownA := hown.alloc (.cells #[.slice (some ⟨g9, 0, none⟩) nd cap] 36)
      have hnews : ∀ (j : Nat) (u : Value), ([.slice (some ⟨g9, 0, none⟩) nd cap] : List Value)[j]? = some u → (W6.alloc (.cells #[.slice (some ⟨g9, 0, none⟩) nd cap] 36)).cell? ((⟨W6.heap.size, 0, none⟩ : Addr).add j) = some u :=
        World.news_of_block (cs := #[.slice (some ⟨g9, 0, none⟩) nd cap]) (World.alloc_heap_new W6 _)
      refine hK _ _ (fun _ => ⟨kga.cell, trivial⟩) ?_
      clear hK K
      try simp only [Act.put, List.setIfInBounds_toArray, List.set_cons_zero, List.set_cons_succ]
      have hbig1 : Hid (no + 1 ≤ maxLen) := by show _ ≤ maxLen; unfold maxLen; omega
      have hbig2 : Hid ((no + 1) * 24 ≤ 140737488355328) := by show (no + 1) * 24 ≤ 140737488355328; omega
      have hbase : B0 ≤ (W6.alloc (.cells #[.slice (some ⟨g9, 0, none⟩) nd cap] 36)).heap.size := by simp; omega
      refine till_one (i := 4) (by kernel_rfl) rfl rfl (fun K hK => ?_)
      refine wp_append_lies _ _ _ 88 (by rfl) B0 36 i0 (.slice none 0 0) 1 24 Tryz.underlying88 hi0 hz0 hz1 hz2 rfl (by omega) (.slice O no co) no vs (by rfl) hownA ⟨W6.heap.size, 0, none⟩ 1 1 [.slice (some ⟨g9, 0, none⟩) nd cap] (by rfl) rfl hnews (by simp [Value.oneCell']) (by omega) hbig1.out hbig2.out hbase (W6.heap.size + 1) (by simp) ?_
      intro g10 cap2 w7 hown7 hgrow hlies hlt7
      have hrg : (Value.slice O no co).ownBlock ≠ some g := fun e => by have := (hownA.lt g e).1; omega
      have kg7 := kga.grown hgrow (fun e => hrg e.symm)
      have hg10 := hown7.lt g10 rfl
      refine hK _ _ (fun _ => ⟨kg7.cell, trivial⟩) ?_
      clear hK K
      try simp only [Act.put, List.setIfInBounds_toArray, List.set_cons_zero, List.set_cons_succ]
      refine till_one (i := 5) (by kernel_rfl) rfl rfl (fun K hK => ?_)
      obtain ⟨x7, y7, z7⟩ := kg7.rules
      go_simp
      clear x7 y7 z7
      have kgz := kg7.set_ 0 (.slice (some ⟨g10, 0, none⟩) (no + 1) cap2)
      simp only [List.setIfInBounds_toArray, List.set_cons_zero, List.set_cons_succ] at kgz
      have hownz := ownsRow_setCell hown7 (p := ⟨g, 0, none⟩) (fun e => by simp [Value.ownBlock] at e; omega) (.slice (some ⟨g10, 0, none⟩) (no + 1) cap2)
      have hkz : ∀ q, q < W5.heap.size → q ≠ g → (Value.slice O no co).ownBlock ≠ some q → (w7.setCell ⟨g, 0, none⟩ (.slice (some ⟨g10, 0, none⟩) (no + 1) cap2)).heap[q]? = W5.heap[q]? := fun q hq hqg hqr =>
        (Below.heap_setCell w7 ⟨g, 0, none⟩ _ q (by dsimp only; omega)).trans ((hgrow.block q (by simp; omega) (fun e => hqr e.symm)).trans ((Below.heap_alloc W6 _ q (by omega)).trans (hk6 q hq)))
      have hk9 : (w7.setCell ⟨g, 0, none⟩ (.slice (some ⟨g10, 0, none⟩) (no + 1) cap2)).heap[g9]? = W6.heap[g9]? :=
        (Below.heap_setCell w7 ⟨g, 0, none⟩ _ g9 (by dsimp only; omega)).trans ((hgrow.block g9 (by simp; omega) (fun e => by have := hrw g9 e.symm; omega)).trans (Below.heap_alloc W6 _ g9 (by omega)))
      have hszz : W6.heap.size ≤ (w7.setCell ⟨g, 0, none⟩ (.slice (some ⟨g10, 0, none⟩) (no + 1) cap2)).heap.size := by
        have := hgrow.size
        simp [World.setCell] at this ⊢
        omega
      have hfr : SrFr g (Value.slice O no co).ownBlock W5 (w7.setCell ⟨g, 0, none⟩ (.slice (some ⟨g10, 0, none⟩) (no + 1) cap2)) := by
        have b1 := ((Below.refl W5.heap.size W5).trans hb6).alloc hs6 (.cells #[.slice (some ⟨g9, 0, none⟩) nd cap] 36)
        exact ⟨by simp [World.setCell, hgrow.os, b1.os], by simp only [World.setCell]; exact hgrow.tape.trans b1.tape, by simp [World.setCell, hgrow.output, b1.output], by omega, hkz⟩
      refine hK _ _ (fun h => nomatch (show true = false from h)) ?_
      clear hK K
      try simp only [Act.put, List.setIfInBounds_toArray, List.set_cons_zero, List.set_cons_succ]
      refine till_done (by kernel_rfl) (noPanic_normal ?_) _
      generalize w7.setCell ⟨g, 0, none⟩ (.slice (some ⟨g10, 0, none⟩) (no + 1) cap2) = Wz at *
      go_wp2_with fail
      refine bodyPost_ret (results_none rfl _ _ _) rfl ?_
      refine ⟨⟨_, rfl⟩, some ⟨g10, 0, none⟩, no + 1, cap2, ?_, (SrFr.of_below hb).trans hfr (fun q e => .inl e), ?_, by omega⟩
      · rw [hsr.out]
        refine ⟨kgz, by rw [List.length_append, hlen]; rfl, vs ++ [.slice (some ⟨g9, 0, none⟩) nd cap], hownz, fun i v l hv hl => ?_⟩
        have hvl : vs.length = no := by have := hown.1; omega
        by_cases hi : i < no
        · rw [List.getElem?_append_left (by omega)] at hv hl
          obtain ⟨q, m, d, rfl, e1, e2, e3⟩ := hel2 i v l hv hl
          have hqb := e1.blk e2 q 0 rfl
          refine ⟨q, m, d, rfl, e1.keepB (by omega) (fun b' o e => ?_), e2, fun e => ?_⟩
          · simp only [Option.some.injEq, Addr.mk.injEq, and_true] at e
            obtain ⟨rfl, rfl⟩ := e
            exact hkz q hqb.2 (by omega) e3
          · simp only [Value.ownBlock, Option.some.injEq] at e
            rcases hlies with h | h
            · exact e3 (by rw [h, e])
            · omega
        · have hin : i = no := by
            have := (List.getElem?_eq_some_iff.1 hv).1
            rw [List.length_append] at this
            simp at this; omega
          subst hin
          rw [List.getElem?_append_right (by omega), hvl, Nat.sub_self] at hv
          rw [List.getElem?_append_right (by omega), hlen, Nat.sub_self] at hl
          simp only [List.getElem?_cons_zero, Option.some.injEq] at hv hl
          subst hv; subst hl
          refine ⟨g9, nd, cap, rfl, (hSn.mono (by omega)).keepB hszz (fun b' o e => ?_), by omega, fun e => ?_⟩
          · simp only [Option.some.injEq, Addr.mk.injEq, and_true] at e
            obtain ⟨rfl, rfl⟩ := e
            exact hk9
          · simp only [Value.ownBlock, Option.some.injEq] at e
            rcases hlies with h | h
            · have := hrw g10 h; omega
            · omega
      · intro q e
        simp only [Value.ownBlock, Option.some.injEq] at e
        subst e
        rcases hlies with h | h
        · exact .inl h
        · exact .inr (by omega)
    · rw [if_neg hlt] at hsr
      have hgt : ¬ ms > limit := hlt
      have hge : ms ≤ limit := by omega
      go_wp2_with fail
      refine bodyPost_ret (results_none rfl _ _ _) rfl ?_
      exact ⟨⟨_, rfl⟩, O, no, co, by rw [hsr.out]; exact hOd, SrFr.of_below hb, fun q e => .inl e, by omega⟩
end Go.Proofs.YtfengddpfeneiaaGreat
