/- Package replicalaw09: step: one call on both tables, by contract. -/
import Derived.Test.YtkjbjfjgnponfaaLkBs
namespace Go.Proofs.Ytkjbjfjgnponfaa
open Go.RowKit
set_option linter.unusedSimpArgs false
set_option linter.unusedVariables false
/-- a pair at work: both tables, the Book; the blocks of D are another's -/
structure St (base : Nat) (wr : World) (X T E R B n i : Nat) (most : Int) (late : Bool) (q W0 : Nat) (D : Nat → Prop) (V : Nat → Value) (wait : Int) (Lt Lr : Nat → List Pl) (A : Option Addr) (c : Nat) (P : List RP) (turns : Int) : Prop where
  px : Blk wr X 60 #[.pointer (some ⟨T, 0, none⟩), .pointer (some ⟨R, 0, none⟩), .pointer (some ⟨B, 0, none⟩)]
  tab : TabS base wr T E n 0 most wait V Lt
  ref : RS base wr R n i most A c P turns Lr
  bk : BkI base wr B late q W0
  dI : ∀ k, D k → ∃ t cs, Blk wr k t cs ∧ ¬ bkT t
  dT : ∀ k, Fp T E n V k → ¬ D k
  dR : ∀ k, RFp R A k → ¬ D k
abbrev DF (base : Nat) (D : Nat → Prop) : Nat → Nat → Prop := fun k _ => base ≤ k ∧ ¬ D k
theorem fp_typ {base : Nat} {wr : World} {T E n : Nat} {s most wait : Int} {V : Nat → Value} {L : Nat → List Pl} (h : TabS base wr T E n s most wait V L) {k : Nat} (hk : Fp T E n V k) : ∃ t cs, Blk wr k t cs ∧ (t = 83 ∨ t = 93 ∨ t = 96) := by
  rcases hk with rfl | rfl | ⟨j, hj, e⟩
  · exact ⟨_, _, h.tb, .inl rfl⟩
  · exact ⟨_, _, h.ex, .inr (.inl rfl)⟩
  · obtain ⟨_, cs, hb⟩ := (h.own j hj).blk e
    exact ⟨_, cs, hb, .inr (.inr rfl)⟩
section
variable {base : Nat} {wr wr' : World} {X T E R B n i : Nat} {most : Int} {late : Bool} {q W0 : Nat} {D : Nat → Prop} {V V' : Nat → Value} {wait wait' : Int} {Lt Lr L' : Nat → List Pl} {A A' : Option Addr} {c c' : Nat} {P P' : List RP} {turns turns' : Int}
/-- a block whose type no call writes -/
theorem St.blkT (h : St base wr X T E R B n i most late q W0 D V wait Lt Lr A c P turns) (hC : Chg (fun k _ => Fp T E n V k) wr wr') {g t : Nat} {cs : Array Value} (hb : Blk wr g t cs) (h1 : t ≠ 83) (h2 : t ≠ 93) (h3 : t ≠ 96) : Blk wr' g t cs := h.tab.keepB hC hb h1 h2 h3
theorem St.blkR (h : St base wr X T E R B n i most late q W0 D V wait Lt Lr A c P turns) (hC : Chg (fun k _ => RFp R A k) wr wr') {g t : Nat} {cs : Array Value} (hb : Blk wr g t cs) (h1 : t ≠ 101) (h2 : t ≠ 104) : Blk wr' g t cs := h.ref.s.keepB hC hb h1 h2
theorem St.blkB (hC : BkC base wr wr') {g t : Nat} {cs : Array Value} (hb : Blk wr g t cs) (h1 : ¬ bkT t) : Blk wr' g t cs := by
  obtain ⟨F, hC, hF⟩ := hC
  exact hC.blk hb fun j hf => by
    obtain ⟨_, t2, cs2, hb2, ht⟩ := hF g j hf
    exact blk_type_ne hb hb2 (fun e => h1 (by rw [e]; exact ht)) rfl
theorem St.below (h : St base wr X T E R B n i most late q W0 D V wait Lt Lr A c P turns) (hB : Below wr.heap.size wr wr') : St base wr' X T E R B n i most late q W0 D V wait Lt Lr A c P turns :=
  ⟨h.px.below hB h.px.lt, h.tab.below hB, h.ref.below hB, h.bk.below hB, fun k hk => by obtain ⟨t, cs, hb, ht⟩ := h.dI k hk; exact ⟨t, cs, hb.below hB hb.lt, ht⟩, h.dT, h.dR⟩
theorem St.chgB (h : St base wr X T E R B n i most late q W0 D V wait Lt Lr A c P turns) (hB : Below wr.heap.size wr wr') : Chg (DF base D) wr wr' := Chg.of_below _ hB
theorem St.mono {i' q' W1 : Nat} (h : St base wr X T E R B n i most late q W0 D V wait Lt Lr A c P turns) (hi : i ≤ i') (hq : q ≤ q') (hW : W0 ≤ W1) : St base wr X T E R B n i' most late q' W1 D V wait Lt Lr A c P turns :=
  ⟨h.px, h.tab, h.ref.mono hi, h.bk.mono hq hW, h.dI, h.dT, h.dR⟩
/-- the program's table was called -/
theorem St.stepT (h : St base wr X T E R B n i most late q W0 D V wait Lt Lr A c P turns) (hT : TabS base wr' T E n 0 most wait' V' L') (hC : Chg (fun k _ => Fp T E n V k) wr wr') (hF : ∀ k, Fp T E n V' k → Fp T E n V k ∨ wr.heap.size ≤ k) :
    St base wr' X T E R B n i most late q W0 D V' wait' L' Lr A c P turns ∧ Chg (DF base D) wr wr' := by
  refine ⟨⟨h.blkT hC h.px (by decide) (by decide) (by decide), hT, ⟨h.ref.s.keep hC fun k hk _ hf => ?_, h.ref.sim, h.ref.len, h.ref.tle⟩, h.bk.keep hC fun k t cs hb ht _ hf => ?_, fun k hk => ?_, fun k hk hd => ?_, h.dR⟩, hC.mono fun k _ _ hf => ⟨(h.tab.fpLt hf).1, h.dT k hf⟩⟩
  · obtain ⟨t, cs, hb, ht⟩ := fp_typ h.tab hf
    obtain ⟨_, t2, cs2, hb2, ht2⟩ := h.ref.s.typ hk
    exact blk_type_ne hb hb2 (by rcases ht with rfl | rfl | rfl <;> rcases ht2 with rfl | rfl <;> decide) rfl
  · obtain ⟨t2, cs2, hb2, ht2⟩ := fp_typ h.tab hf
    exact blk_type_ne hb hb2 (by rcases ht with rfl | rfl | rfl <;> rcases ht2 with rfl | rfl | rfl <;> decide) rfl
  · obtain ⟨t, cs, hb, ht⟩ := h.dI k hk
    exact ⟨t, cs, hC.blk hb fun _ hf => h.dT k hf hk, ht⟩
  · rcases hF k hk with h1 | h1
    · exact h.dT k h1 hd
    · obtain ⟨t, cs, hb, _⟩ := h.dI k hd
      have := hb.lt
      omega
/-- the document's table was called -/
theorem St.stepR {i' : Nat} (h : St base wr X T E R B n i most late q W0 D V wait Lt Lr A c P turns) (hR : RS base wr' R n i' most A' c' P' turns' L') (hC : Chg (fun k _ => RFp R A k) wr wr') (hF : ∀ k, RFp R A' k → RFp R A k ∨ wr.heap.size ≤ k) :
    St base wr' X T E R B n i' most late q W0 D V wait Lt L' A' c' P' turns' ∧ Chg (DF base D) wr wr' := by
  refine ⟨⟨h.blkR hC h.px (by decide) (by decide), h.tab.keep hC fun k hk _ hf => ?_, hR, h.bk.keep hC fun k t cs hb ht _ hf => ?_, fun k hk => ?_, h.dT, fun k hk hd => ?_⟩, hC.mono fun k _ _ hf => ⟨(h.ref.s.lt hf).1, h.dR k hf⟩⟩
  · obtain ⟨t, cs, hb, ht⟩ := fp_typ h.tab hk
    obtain ⟨_, t2, cs2, hb2, ht2⟩ := h.ref.s.typ hf
    exact blk_type_ne hb hb2 (by rcases ht with rfl | rfl | rfl <;> rcases ht2 with rfl | rfl <;> decide) rfl
  · obtain ⟨_, t2, cs2, hb2, ht2⟩ := h.ref.s.typ hf
    exact blk_type_ne hb hb2 (by rcases ht with rfl | rfl | rfl <;> rcases ht2 with rfl | rfl <;> decide) rfl
  · obtain ⟨t, cs, hb, ht⟩ := h.dI k hk
    exact ⟨t, cs, hC.blk hb fun _ hf => h.dR k hf hk, ht⟩
  · rcases hF k hk with h1 | h1
    · exact h.dR k h1 hd
    · obtain ⟨t, cs, hb, _⟩ := h.dI k hd
      have := hb.lt
      omega
/-- the Book was written -/
theorem St.stepB {q' W1 : Nat} (h : St base wr X T E R B n i most late q W0 D V wait Lt Lr A c P turns) (hB : BkI base wr' B late q' W1) (hC : BkC base wr wr') :
    St base wr' X T E R B n i most late q' W1 D V wait Lt Lr A c P turns ∧ Chg (DF base D) wr wr' := by
  obtain ⟨F, hC2, hF⟩ := hC
  refine ⟨⟨St.blkB ⟨F, hC2, hF⟩ h.px (by rintro (h | h | h) <;> exact absurd h (by decide)), h.tab.keep hC2 fun k hk j hf => ?_, ⟨h.ref.s.keep hC2 fun k hk j hf => ?_, h.ref.sim, h.ref.len, h.ref.tle⟩, hB, fun k hk => ?_, h.dT, h.dR⟩, hC2.mono fun k j _ hf => ⟨(hF k j hf).1, fun hd => ?_⟩⟩
  · obtain ⟨_, t, cs, hb, ht⟩ := hF k j hf
    obtain ⟨t2, cs2, hb2, ht2⟩ := fp_typ h.tab hk
    exact blk_type_ne hb hb2 (by rcases ht with rfl | rfl | rfl <;> rcases ht2 with rfl | rfl | rfl <;> decide) rfl
  · obtain ⟨_, t, cs, hb, ht⟩ := hF k j hf
    obtain ⟨_, t2, cs2, hb2, ht2⟩ := h.ref.s.typ hk
    exact blk_type_ne hb hb2 (by rcases ht with rfl | rfl | rfl <;> rcases ht2 with rfl | rfl <;> decide) rfl
  · obtain ⟨t, cs, hb, ht⟩ := h.dI k hk
    refine ⟨t, cs, hC2.blk hb fun j hf => ?_, ht⟩
    obtain ⟨_, t2, cs2, hb2, ht2⟩ := hF k j hf
    exact blk_type_ne hb hb2 (fun e => ht (by rw [e]; exact ht2)) rfl
  · obtain ⟨t, cs, hb, ht⟩ := h.dI k hd
    obtain ⟨_, t2, cs2, hb2, ht2⟩ := hF k j hf
    exact blk_type_ne hb hb2 (fun e => ht (by rw [e]; exact ht2)) rfl
/-- a list that was handed out stays where the document's table is called -/
theorem KO.keepR {l : List Int} {Ag : Option Addr} {gc : Nat} (h : KO wr Ag gc l) (hs : St base wr X T E R B n i most late q W0 D V wait Lt Lr A c P turns) (hC : Chg (fun k _ => RFp R A k) wr wr') : KO wr' Ag gc l :=
  h.chg hC fun ad e _ hf => by
    obtain ⟨cs, hb⟩ := h.blk e
    obtain ⟨_, t2, cs2, hb2, ht2⟩ := hs.ref.s.typ hf
    exact blk_type_ne hb hb2 (by rcases ht2 with rfl | rfl <;> decide) rfl
end
/-- a pair at work, whatever its tables hold -/
def StI (base : Nat) (w : World) (X T E R B n i : Nat) (most : Int) (late : Bool) (q : Nat) (D : Nat → Prop) : Prop :=
  ∃ (V : Nat → Value) (wait : Int) (L : Nat → List Pl) (A : Option Addr) (c : Nat) (P : List RP) (turns : Int), St base w X T E R B n i most late q w.heap.size D V wait L L A c P turns ∧ Inv n i L wait ∧ Good n L ∧ wait ≤ most
abbrev opC (kind : Int) (sec : Bool) (ex mode owner : Int) : Array Value := #[.int .i64 kind, .bool sec, .int .i64 ex, .int .i64 mode, .int .i64 owner]
def StepPost (base : Nat) (w : World) (X T E R B n i : Nat) (most : Int) (late : Bool) (q : Nat) (D : Nat → Prop) (e : Ending) (w' : World) : Prop :=
  e = .returned (.bool true) ∧ StI base w' X T E R B n (i + 1) most late (q + 1) D ∧ Chg (DF base D) w w'
theorem df_trans {base : Nat} {D : Nat → Prop} {a b c : World} (h : Chg (DF base D) a b) (k : Chg (DF base D) b c) : Chg (DF base D) a c := h.trans k fun _ _ _ h => h
set_option maxRecDepth 20000 in
set_option maxHeartbeats 16000000 in
theorem step_acq (base X T E R B n i : Nat) (most : Int) (late : Bool) (q : Nat) (D : Nat → Prop) (ex mode owner : Int) (sec : Bool) (w : World) (hst : StI base w X T E R B n i most late q D) (hn : n ≤ 4096) (hm : most ≤ 512) (hi : i ≤ 300000000000) (hq : q ≤ 300000000000) (hbw : base ≤ w.heap.size) :
    Calls Try.prog 27 #[.pointer (some ⟨X, 0, none⟩), .agg (opC 1 sec ex mode owner)] w (StepPost base w X T E R B n i most late q D) := by
  obtain ⟨V, wait, L, A, c, P, turns, hS, hI, hG, hM⟩ := hst
  have hw0 := hI.waits
  have hwb : 0 ≤ wait ∧ wait ≤ 1000000 := by omega
  have ln4 := hI.lens4 (show i ≤ 4000000000000 by omega)
  have row6 := hI.row6 hwb.2
  obtain ⟨O, hO⟩ : ∃ O, O = w.heap.size := ⟨_, rfl⟩
  obtain ⟨w1, hw1⟩ : ∃ w1, w1 = w.alloc (.cells (opC 1 sec ex mode owner) 33) := ⟨_, rfl⟩
  have hB1 : Below w.heap.size w w1 := by rw [hw1]; exact (Below.refl _ _).alloc (Nat.le_refl _) _
  have S1 := Lib.hid ((hS.below hB1).mono (Nat.le_refl i) (Nat.le_refl q) hB1.size)
  have C1 := Lib.hid (hS.chgB hB1)
  have OB1 := Lib.hid (show Blk w1 O 33 (opC 1 sec ex mode owner) by rw [hw1, hO]; exact Blk.new w _ _)
  have HI := Lib.hid hI
  have HG := Lib.hid hG
  have LN := Lib.hid ln4
  have RW := Lib.hid row6
  have k0 : w1.cell? ⟨O, 0, none⟩ = some (.int .i64 1) := OB1.out.cell 0
  have hbw1 : base ≤ w1.heap.size := Nat.le_trans hbw hB1.size
  clear hS hI hG ln4 row6 hB1 hw0
  go_enter Try.func27, Try.ntmps27
  go_upto_region 3 with fail
  rw [← hw1, ← hO]
  clear hw1 hO
  have S2 := Lib.hid (S1.out.below (Below.refl w1.heap.size w1).drew)
  have OB2 := Lib.hid (show Blk w1.drew O 33 _ from OB1.out)
  obtain ⟨pa, hpa⟩ : ∃ pa, pa = acqT n L wait most ex mode owner := ⟨_, rfl⟩
  have ga := acquireM_any base T E n most ex mode owner V wait L w1.drew S2.out.tab hn LN.out hwb
  have IA := acq_inv (most := most) (ex := ex) (mode := mode) (owner := owner) HI.out
  have GDA := acq_good (wait := wait) (most := most) (ex := ex) (mode := mode) (owner := owner) HG.out
  have MA := acq_most (n := n) (L := L) (ex := ex) (mode := mode) (owner := owner) hM
  rw [← hpa] at ga IA GDA MA
  have GA := Lib.hid ga
  have IA := Lib.hid IA
  have GDA := Lib.hid GDA
  have HPA := Lib.hid hpa
  clear ga hpa
  refine wp_region_noPanic ?_
  refine wp_region_held_drew (S := fun w' => w'.cell? ⟨X, 0, none⟩ = some (.pointer (some ⟨T, 0, none⟩)) ∧ w'.cell? ⟨O, 2, none⟩ = some (.int .i64 ex) ∧ w'.cell? ⟨O, 3, none⟩ = some (.int .i64 mode) ∧ w'.cell? ⟨O, 4, none⟩ = some (.int .i64 owner)) (by kernel_rfl) (⟨S2.out.px.cell 0, OB2.out.cell 2, OB2.out.cell 3, OB2.out.cell 4⟩) (fun hHeld => ?_)
  refine take_on (i := 0) (some 34) (v := ?vr1) rfl rfl (by kernel_rfl) (by kernel_rfl) (by kernel_rfl) (fun _ _ _ h => h) (by rfl) ?hyr1 (by with_reducible exact hHeld) ?restr1
  case hyr1 => (intro wS hSw; (try dsimp only at hSw); go_simp; try with_reducible rfl)
  try simp only [Act.put, List.setIfInBounds_toArray, List.set_cons_zero, List.set_cons_succ]
  refine take_on (i := 1) (some 35) (v := ?vr2) rfl rfl (by kernel_rfl) (by kernel_rfl) (by kernel_rfl) (fun _ _ _ h => h) (by rfl) ?hyr2 (by with_reducible exact hHeld) ?restr2
  case hyr2 => (intro wS hSw; (try dsimp only at hSw); go_simp; try with_reducible rfl)
  try simp only [Act.put, List.setIfInBounds_toArray, List.set_cons_zero, List.set_cons_succ]
  refine take_on (i := 2) (some 36) (v := ?vr3) rfl rfl (by kernel_rfl) (by kernel_rfl) (by kernel_rfl) (fun _ _ _ h => h) (by rfl) ?hyr3 (by with_reducible exact hHeld) ?restr3
  case hyr3 => (intro wS hSw; (try dsimp only at hSw); go_simp; try with_reducible rfl)
  try simp only [Act.put, List.setIfInBounds_toArray, List.set_cons_zero, List.set_cons_succ]
  refine take_on (i := 3) (some 37) (v := ?vr4) rfl rfl (by kernel_rfl) (by kernel_rfl) (by kernel_rfl) (fun _ _ _ h => h) (by rfl) ?hyr4 (by with_reducible exact hHeld) ?restr4
  case hyr4 => (intro wS hSw; (try dsimp only at hSw); go_simp; try with_reducible rfl)
  try simp only [Act.put, List.setIfInBounds_toArray, List.set_cons_zero, List.set_cons_succ]
  refine take_on (i := 4) (some 38) (v := ?vr5) rfl rfl (by kernel_rfl) (by kernel_rfl) (by kernel_rfl) (fun _ _ _ h => h) (by rfl) ?hyr5 (by with_reducible exact hHeld) ?restr5
  case hyr5 => (intro wS hSw; (try dsimp only at hSw); go_simp; try with_reducible rfl)
  try simp only [Act.put, List.setIfInBounds_toArray, List.set_cons_zero, List.set_cons_succ]
  refine take_on (i := 5) (some 39) (v := ?vr6) rfl rfl (by kernel_rfl) (by kernel_rfl) (by kernel_rfl) (fun _ _ _ h => h) (by rfl) ?hyr6 (by with_reducible exact hHeld) ?restr6
  case hyr6 => (intro wS hSw; (try dsimp only at hSw); go_simp; try with_reducible rfl)
  try simp only [Act.put, List.setIfInBounds_toArray, List.set_cons_zero, List.set_cons_succ]
  refine take_on (i := 6) (some 40) (v := ?vr7) rfl rfl (by kernel_rfl) (by kernel_rfl) (by kernel_rfl) (fun _ _ _ h => h) (by rfl) ?hyr7 (by with_reducible exact hHeld) ?restr7
  case hyr7 => (intro wS hSw; (try dsimp only at hSw); go_simp; try with_reducible rfl)
  try simp only [Act.put, List.setIfInBounds_toArray, List.set_cons_zero, List.set_cons_succ]
  refine take_on (i := 7) (some 41) (v := ?vr8) rfl rfl (by kernel_rfl) (by kernel_rfl) (by kernel_rfl) (fun _ _ _ h => h) (by rfl) ?hyr8 (by with_reducible exact hHeld) ?restr8
  case hyr8 => (intro wS hSw; (try dsimp only at hSw); go_simp; try with_reducible rfl)
  try simp only [Act.put, List.setIfInBounds_toArray, List.set_cons_zero, List.set_cons_succ]
  refine take_on (i := 8) (some 42) (v := ?vr9) rfl rfl (by kernel_rfl) (by kernel_rfl) (by kernel_rfl) (fun _ _ _ h => h) (by rfl) ?hyr9 (by with_reducible exact hHeld) ?restr9
  case hyr9 => (intro wS hSw; (try dsimp only at hSw); go_simp; try with_reducible rfl)
  try simp only [Act.put, List.setIfInBounds_toArray, List.set_cons_zero, List.set_cons_succ]
  refine take_on (i := 9) (some 43) (v := ?vr10) rfl rfl (by kernel_rfl) (by kernel_rfl) (by kernel_rfl) (fun _ _ _ h => h) (by rfl) ?hyr10 (by with_reducible exact hHeld) ?restr10
  case hyr10 => (intro wS hSw; (try dsimp only at hSw); go_simp; try with_reducible rfl)
  try simp only [Act.put, List.setIfInBounds_toArray, List.set_cons_zero, List.set_cons_succ]
  refine wpAnyH_ready (rs := [10]) (by kernel_rfl) (by simp) ?_
  refine AllReadyH.cons rfl (fun K hK => ?_) AllReadyH.nil
  go_simp
  with_reducible refine GA.out.mono ?_
  rintro e w3 ⟨rfl, V3, hT, hC, hF⟩
  obtain ⟨hs, hc⟩ := S2.out.stepT hT hC hF
  have S3 := Lib.hid hs
  have C3 := Lib.hid hc
  have OB3 := Lib.hid (S2.out.blkT hC OB2.out (by decide) (by decide) (by decide))
  clear GA hT hC hF hs hc
  refine hK.out _ _ (⟨S3.out.px.cell 0, OB3.out.cell 2, OB3.out.cell 3, OB3.out.cell 4⟩) (fun hHeld => ?_)
  clear hK K
  try simp only [Act.put, List.setIfInBounds_toArray, List.set_cons_zero, List.set_cons_succ]
  refine take_on (i := 11) (some 33) (v := ?vr11) rfl rfl (by kernel_rfl) (by kernel_rfl) (by kernel_rfl) (fun _ _ _ h => h) (by rfl) ?hyr11 (by with_reducible exact hHeld) ?restr11
  case hyr11 => (intro wS hSw; (try dsimp only at hSw); go_simp; try with_reducible rfl)
  try simp only [Act.put, List.setIfInBounds_toArray, List.set_cons_zero, List.set_cons_succ]
  refine take_on (i := 12) (some 45) (v := ?vr12) rfl rfl (by kernel_rfl) (by kernel_rfl) (by kernel_rfl) (fun _ _ _ h => h) (by rfl) ?hyr12 (by with_reducible exact hHeld) ?restr12
  case hyr12 => (intro wS hSw; (try dsimp only at hSw); go_simp; try with_reducible rfl)
  try simp only [Act.put, List.setIfInBounds_toArray, List.set_cons_zero, List.set_cons_succ]
  refine take_on (i := 13) (some 46) (v := ?vr13) rfl rfl (by kernel_rfl) (by kernel_rfl) (by kernel_rfl) (fun _ _ _ h => h) (by rfl) ?hyr13 (by with_reducible exact hHeld) ?restr13
  case hyr13 => (intro wS hSw; (try dsimp only at hSw); go_simp; try with_reducible rfl)
  try simp only [Act.put, List.setIfInBounds_toArray, List.set_cons_zero, List.set_cons_succ]
  refine take_on (i := 14) (some 5) (v := ?vr14) rfl rfl (by kernel_rfl) (by kernel_rfl) (by kernel_rfl) (fun _ _ _ h => h) (by rfl) ?hyr14 (by with_reducible exact hHeld) ?restr14
  case hyr14 => (intro wS hSw; (try dsimp only at hSw); go_simp; try with_reducible rfl)
  try simp only [Act.put, List.setIfInBounds_toArray, List.set_cons_zero, List.set_cons_succ]
  refine take_on (i := 15) (some 6) (v := ?vr15) rfl rfl (by kernel_rfl) (by kernel_rfl) (by kernel_rfl) (fun _ _ _ h => h) (by rfl) ?hyr15 (by with_reducible exact hHeld) ?restr15
  case hyr15 => (intro wS hSw; (try dsimp only at hSw); go_simp; try with_reducible rfl)
  try simp only [Act.put, List.setIfInBounds_toArray, List.set_cons_zero, List.set_cons_succ]
  refine wpAnyH_done (by kernel_rfl) ?_ _
  refine NoPanic.normal ?_
  go_upto_region 4 with fail
  have S4 := Lib.hid (S3.out.below (Below.refl w3.heap.size w3).drew)
  have OB4 := Lib.hid (show Blk w3.drew O 33 _ from OB3.out)
  have gr := racq_any base R n i c most A P turns wait L ex mode owner w3.drew S4.out.ref HG.out HI.out.sum hn (by omega)
  rw [← HPA.out] at gr
  have GR := Lib.hid gr
  clear gr
  refine wp_region_noPanic ?_
  refine wp_region_held_drew (S := fun w' => w'.cell? ⟨X, 1, none⟩ = some (.pointer (some ⟨R, 0, none⟩)) ∧ w'.cell? ⟨O, 2, none⟩ = some (.int .i64 ex) ∧ w'.cell? ⟨O, 3, none⟩ = some (.int .i64 mode) ∧ w'.cell? ⟨O, 4, none⟩ = some (.int .i64 owner)) (by kernel_rfl) (⟨S4.out.px.cell 1, OB4.out.cell 2, OB4.out.cell 3, OB4.out.cell 4⟩) (fun hHeld => ?_)
  refine take_on (i := 0) (some 48) (v := ?vr16) rfl rfl (by kernel_rfl) (by kernel_rfl) (by kernel_rfl) (fun _ _ _ h => h) (by rfl) ?hyr16 (by with_reducible exact hHeld) ?restr16
  case hyr16 => (intro wS hSw; (try dsimp only at hSw); go_simp; try with_reducible rfl)
  try simp only [Act.put, List.setIfInBounds_toArray, List.set_cons_zero, List.set_cons_succ]
  refine take_on (i := 1) (some 49) (v := ?vr17) rfl rfl (by kernel_rfl) (by kernel_rfl) (by kernel_rfl) (fun _ _ _ h => h) (by rfl) ?hyr17 (by with_reducible exact hHeld) ?restr17
  case hyr17 => (intro wS hSw; (try dsimp only at hSw); go_simp; try with_reducible rfl)
  try simp only [Act.put, List.setIfInBounds_toArray, List.set_cons_zero, List.set_cons_succ]
  refine take_on (i := 2) (some 50) (v := ?vr18) rfl rfl (by kernel_rfl) (by kernel_rfl) (by kernel_rfl) (fun _ _ _ h => h) (by rfl) ?hyr18 (by with_reducible exact hHeld) ?restr18
  case hyr18 => (intro wS hSw; (try dsimp only at hSw); go_simp; try with_reducible rfl)
  try simp only [Act.put, List.setIfInBounds_toArray, List.set_cons_zero, List.set_cons_succ]
  refine take_on (i := 3) (some 51) (v := ?vr19) rfl rfl (by kernel_rfl) (by kernel_rfl) (by kernel_rfl) (fun _ _ _ h => h) (by rfl) ?hyr19 (by with_reducible exact hHeld) ?restr19
  case hyr19 => (intro wS hSw; (try dsimp only at hSw); go_simp; try with_reducible rfl)
  try simp only [Act.put, List.setIfInBounds_toArray, List.set_cons_zero, List.set_cons_succ]
  refine take_on (i := 4) (some 52) (v := ?vr20) rfl rfl (by kernel_rfl) (by kernel_rfl) (by kernel_rfl) (fun _ _ _ h => h) (by rfl) ?hyr20 (by with_reducible exact hHeld) ?restr20
  case hyr20 => (intro wS hSw; (try dsimp only at hSw); go_simp; try with_reducible rfl)
  try simp only [Act.put, List.setIfInBounds_toArray, List.set_cons_zero, List.set_cons_succ]
  refine take_on (i := 5) (some 53) (v := ?vr21) rfl rfl (by kernel_rfl) (by kernel_rfl) (by kernel_rfl) (fun _ _ _ h => h) (by rfl) ?hyr21 (by with_reducible exact hHeld) ?restr21
  case hyr21 => (intro wS hSw; (try dsimp only at hSw); go_simp; try with_reducible rfl)
  try simp only [Act.put, List.setIfInBounds_toArray, List.set_cons_zero, List.set_cons_succ]
  refine take_on (i := 6) (some 54) (v := ?vr22) rfl rfl (by kernel_rfl) (by kernel_rfl) (by kernel_rfl) (fun _ _ _ h => h) (by rfl) ?hyr22 (by with_reducible exact hHeld) ?restr22
  case hyr22 => (intro wS hSw; (try dsimp only at hSw); go_simp; try with_reducible rfl)
  try simp only [Act.put, List.setIfInBounds_toArray, List.set_cons_zero, List.set_cons_succ]
  refine take_on (i := 7) (some 55) (v := ?vr23) rfl rfl (by kernel_rfl) (by kernel_rfl) (by kernel_rfl) (fun _ _ _ h => h) (by rfl) ?hyr23 (by with_reducible exact hHeld) ?restr23
  case hyr23 => (intro wS hSw; (try dsimp only at hSw); go_simp; try with_reducible rfl)
  try simp only [Act.put, List.setIfInBounds_toArray, List.set_cons_zero, List.set_cons_succ]
  refine take_on (i := 8) (some 56) (v := ?vr24) rfl rfl (by kernel_rfl) (by kernel_rfl) (by kernel_rfl) (fun _ _ _ h => h) (by rfl) ?hyr24 (by with_reducible exact hHeld) ?restr24
  case hyr24 => (intro wS hSw; (try dsimp only at hSw); go_simp; try with_reducible rfl)
  try simp only [Act.put, List.setIfInBounds_toArray, List.set_cons_zero, List.set_cons_succ]
  refine take_on (i := 9) (some 57) (v := ?vr25) rfl rfl (by kernel_rfl) (by kernel_rfl) (by kernel_rfl) (fun _ _ _ h => h) (by rfl) ?hyr25 (by with_reducible exact hHeld) ?restr25
  case hyr25 => (intro wS hSw; (try dsimp only at hSw); go_simp; try with_reducible rfl)
  try simp only [Act.put, List.setIfInBounds_toArray, List.set_cons_zero, List.set_cons_succ]
  refine wpAnyH_ready (rs := [10]) (by kernel_rfl) (by simp) ?_
  refine AllReadyH.cons rfl (fun K hK => ?_) AllReadyH.nil
  go_simp
  with_reducible refine GR.out.mono ?_
  rintro e w5 ⟨rfl, A5, c5, P5, t5, hR, hC, hF⟩
  obtain ⟨hs, hc⟩ := S4.out.stepR hR hC hF
  have S5 := Lib.hid hs
  have C5 := Lib.hid hc
  have OB5 := Lib.hid (S4.out.blkR hC OB4.out (by decide) (by decide))
  clear GR hR hC hF hs hc
  refine hK.out _ _ (⟨S5.out.px.cell 1, OB5.out.cell 2, OB5.out.cell 3, OB5.out.cell 4⟩) (fun hHeld => ?_)
  clear hK K
  try simp only [Act.put, List.setIfInBounds_toArray, List.set_cons_zero, List.set_cons_succ]
  refine take_on (i := 11) (some 47) (v := ?vr26) rfl rfl (by kernel_rfl) (by kernel_rfl) (by kernel_rfl) (fun _ _ _ h => h) (by rfl) ?hyr26 (by with_reducible exact hHeld) ?restr26
  case hyr26 => (intro wS hSw; (try dsimp only at hSw); go_simp; try with_reducible rfl)
  try simp only [Act.put, List.setIfInBounds_toArray, List.set_cons_zero, List.set_cons_succ]
  refine take_on (i := 12) (some 59) (v := ?vr27) rfl rfl (by kernel_rfl) (by kernel_rfl) (by kernel_rfl) (fun _ _ _ h => h) (by rfl) ?hyr27 (by with_reducible exact hHeld) ?restr27
  case hyr27 => (intro wS hSw; (try dsimp only at hSw); go_simp; try with_reducible rfl)
  try simp only [Act.put, List.setIfInBounds_toArray, List.set_cons_zero, List.set_cons_succ]
  refine take_on (i := 13) (some 60) (v := ?vr28) rfl rfl (by kernel_rfl) (by kernel_rfl) (by kernel_rfl) (fun _ _ _ h => h) (by rfl) ?hyr28 (by with_reducible exact hHeld) ?restr28
  case hyr28 => (intro wS hSw; (try dsimp only at hSw); go_simp; try with_reducible rfl)
  try simp only [Act.put, List.setIfInBounds_toArray, List.set_cons_zero, List.set_cons_succ]
  refine take_on (i := 14) (some 7) (v := ?vr29) rfl rfl (by kernel_rfl) (by kernel_rfl) (by kernel_rfl) (fun _ _ _ h => h) (by rfl) ?hyr29 (by with_reducible exact hHeld) ?restr29
  case hyr29 => (intro wS hSw; (try dsimp only at hSw); go_simp; try with_reducible rfl)
  try simp only [Act.put, List.setIfInBounds_toArray, List.set_cons_zero, List.set_cons_succ]
  refine take_on (i := 15) (some 8) (v := ?vr30) rfl rfl (by kernel_rfl) (by kernel_rfl) (by kernel_rfl) (fun _ _ _ h => h) (by rfl) ?hyr30 (by with_reducible exact hHeld) ?restr30
  case hyr30 => (intro wS hSw; (try dsimp only at hSw); go_simp; try with_reducible rfl)
  try simp only [Act.put, List.setIfInBounds_toArray, List.set_cons_zero, List.set_cons_succ]
  refine wpAnyH_done (by kernel_rfl) ?_ _
  refine NoPanic.normal ?_
  have e1 : (pa.2.2.1 == pa.2.2.1) = true := by simp
  have e2 : (pa.2.2.2 == pa.2.2.2) = true := by simp
  go_wp2
  go_ret
  have cc := df_trans (df_trans C1.out (df_trans ((Chg.refl (DF base D) w1).drew) C3.out)) (df_trans ((Chg.refl (DF base D) w3).drew) C5.out)
  exact ⟨rfl, ⟨V3, pa.2.1, pa.1, A5, c5, P5, t5, S5.out.mono (Nat.le_refl _) (Nat.le_succ q) (Nat.le_trans C3.out.size C5.out.size), IA.out, GDA.out, MA⟩, cc⟩
set_option maxRecDepth 20000 in
set_option maxHeartbeats 16000000 in
theorem step_rel (base X T E R B n i : Nat) (most : Int) (late : Bool) (q : Nat) (D : Nat → Prop) (ex mode owner : Int) (sec : Bool) (w : World) (hst : StI base w X T E R B n i most late q D) (hn : n ≤ 4096) (hm : most ≤ 512) (hi : i ≤ 300000000000) (hq : q ≤ 300000000000) (hbw : base ≤ w.heap.size) :
    Calls Try.prog 27 #[.pointer (some ⟨X, 0, none⟩), .agg (opC 2 sec ex mode owner)] w (StepPost base w X T E R B n i most late q D) := by
  obtain ⟨V, wait, L, A, c, P, turns, hS, hI, hG, hM⟩ := hst
  have hw0 := hI.waits
  have hwb : 0 ≤ wait ∧ wait ≤ 1000000 := by omega
  have ln4 := hI.lens4 (show i ≤ 4000000000000 by omega)
  have row6 := hI.row6 hwb.2
  obtain ⟨O, hO⟩ : ∃ O, O = w.heap.size := ⟨_, rfl⟩
  obtain ⟨w1, hw1⟩ : ∃ w1, w1 = w.alloc (.cells (opC 2 sec ex mode owner) 33) := ⟨_, rfl⟩
  have hB1 : Below w.heap.size w w1 := by rw [hw1]; exact (Below.refl _ _).alloc (Nat.le_refl _) _
  have S1 := Lib.hid ((hS.below hB1).mono (Nat.le_refl i) (Nat.le_refl q) hB1.size)
  have C1 := Lib.hid (hS.chgB hB1)
  have OB1 := Lib.hid (show Blk w1 O 33 (opC 2 sec ex mode owner) by rw [hw1, hO]; exact Blk.new w _ _)
  have HI := Lib.hid hI
  have HG := Lib.hid hG
  have LN := Lib.hid ln4
  have RW := Lib.hid row6
  have k0 : w1.cell? ⟨O, 0, none⟩ = some (.int .i64 2) := OB1.out.cell 0
  have hbw1 : base ≤ w1.heap.size := Nat.le_trans hbw hB1.size
  clear hS hI hG ln4 row6 hB1 hw0
  go_enter Try.func27, Try.ntmps27
  go_upto_region 7 with fail
  rw [← hw1, ← hO]
  clear hw1 hO
  have S2 := Lib.hid (S1.out.below (Below.refl w1.heap.size w1).drew)
  have OB2 := Lib.hid (show Blk w1.drew O 33 _ from OB1.out)
  obtain ⟨pa, hpa⟩ : ∃ pa, pa = relT n L wait ex owner := ⟨_, rfl⟩
  have ga := releaseO_any base T E n most ex owner V wait L w1.drew S2.out.tab hn LN.out hwb RW.out
  have IA := (rel_inv (ex := ex) (owner := owner) HI.out).mono (Nat.le_succ i)
  have GDA := rel_good (wait := wait) (ex := ex) (owner := owner) HG.out
  have MA := rel_most (n := n) (L := L) (ex := ex) (owner := owner) hM
  have hwr := rel_wait (n := n) (L := L) (wait := wait) (ex := ex) (o := owner)
  have hwi := (rel_inv (ex := ex) (owner := owner) HI.out).waits.1
  rw [← hpa] at ga IA GDA MA hwr hwi
  obtain ⟨gn, hgn⟩ : ∃ gn, gn = pa.2.2.1.length := ⟨_, rfl⟩
  rw [← hgn] at ga hwr
  have hgb : gn ≤ 4000000000000 := by omega
  have GA := Lib.hid ga
  have IA := Lib.hid IA
  have GDA := Lib.hid GDA
  have HPA := Lib.hid hpa
  have HGN := Lib.hid hgn.symm
  clear ga hpa hwr hgn hwi
  refine wp_region_noPanic ?_
  refine wp_region_held_drew (S := fun w' => w'.cell? ⟨X, 0, none⟩ = some (.pointer (some ⟨T, 0, none⟩)) ∧ w'.cell? ⟨O, 2, none⟩ = some (.int .i64 ex) ∧ w'.cell? ⟨O, 4, none⟩ = some (.int .i64 owner)) (by kernel_rfl) (⟨S2.out.px.cell 0, OB2.out.cell 2, OB2.out.cell 4⟩) (fun hHeld => ?_)
  refine take_on (i := 0) (some 72) (v := ?vr31) rfl rfl (by kernel_rfl) (by kernel_rfl) (by kernel_rfl) (fun _ _ _ h => h) (by rfl) ?hyr31 (by with_reducible exact hHeld) ?restr31
  case hyr31 => (intro wS hSw; (try dsimp only at hSw); go_simp; try with_reducible rfl)
  try simp only [Act.put, List.setIfInBounds_toArray, List.set_cons_zero, List.set_cons_succ]
  refine take_on (i := 1) (some 73) (v := ?vr32) rfl rfl (by kernel_rfl) (by kernel_rfl) (by kernel_rfl) (fun _ _ _ h => h) (by rfl) ?hyr32 (by with_reducible exact hHeld) ?restr32
  case hyr32 => (intro wS hSw; (try dsimp only at hSw); go_simp; try with_reducible rfl)
  try simp only [Act.put, List.setIfInBounds_toArray, List.set_cons_zero, List.set_cons_succ]
  refine take_on (i := 2) (some 74) (v := ?vr33) rfl rfl (by kernel_rfl) (by kernel_rfl) (by kernel_rfl) (fun _ _ _ h => h) (by rfl) ?hyr33 (by with_reducible exact hHeld) ?restr33
  case hyr33 => (intro wS hSw; (try dsimp only at hSw); go_simp; try with_reducible rfl)
  try simp only [Act.put, List.setIfInBounds_toArray, List.set_cons_zero, List.set_cons_succ]
  refine take_on (i := 3) (some 75) (v := ?vr34) rfl rfl (by kernel_rfl) (by kernel_rfl) (by kernel_rfl) (fun _ _ _ h => h) (by rfl) ?hyr34 (by with_reducible exact hHeld) ?restr34
  case hyr34 => (intro wS hSw; (try dsimp only at hSw); go_simp; try with_reducible rfl)
  try simp only [Act.put, List.setIfInBounds_toArray, List.set_cons_zero, List.set_cons_succ]
  refine take_on (i := 4) (some 76) (v := ?vr35) rfl rfl (by kernel_rfl) (by kernel_rfl) (by kernel_rfl) (fun _ _ _ h => h) (by rfl) ?hyr35 (by with_reducible exact hHeld) ?restr35
  case hyr35 => (intro wS hSw; (try dsimp only at hSw); go_simp; try with_reducible rfl)
  try simp only [Act.put, List.setIfInBounds_toArray, List.set_cons_zero, List.set_cons_succ]
  refine take_on (i := 5) (some 77) (v := ?vr36) rfl rfl (by kernel_rfl) (by kernel_rfl) (by kernel_rfl) (fun _ _ _ h => h) (by rfl) ?hyr36 (by with_reducible exact hHeld) ?restr36
  case hyr36 => (intro wS hSw; (try dsimp only at hSw); go_simp; try with_reducible rfl)
  try simp only [Act.put, List.setIfInBounds_toArray, List.set_cons_zero, List.set_cons_succ]
  refine take_on (i := 6) (some 78) (v := ?vr37) rfl rfl (by kernel_rfl) (by kernel_rfl) (by kernel_rfl) (fun _ _ _ h => h) (by rfl) ?hyr37 (by with_reducible exact hHeld) ?restr37
  case hyr37 => (intro wS hSw; (try dsimp only at hSw); go_simp; try with_reducible rfl)
  try simp only [Act.put, List.setIfInBounds_toArray, List.set_cons_zero, List.set_cons_succ]
  refine take_on (i := 7) (some 79) (v := ?vr38) rfl rfl (by kernel_rfl) (by kernel_rfl) (by kernel_rfl) (fun _ _ _ h => h) (by rfl) ?hyr38 (by with_reducible exact hHeld) ?restr38
  case hyr38 => (intro wS hSw; (try dsimp only at hSw); go_simp; try with_reducible rfl)
  try simp only [Act.put, List.setIfInBounds_toArray, List.set_cons_zero, List.set_cons_succ]
  refine wpAnyH_ready (rs := [8]) (by kernel_rfl) (by simp) ?_
  refine AllReadyH.cons rfl (fun K hK => ?_) AllReadyH.nil
  go_simp
  with_reducible refine GA.out.mono ?_
  rintro e w3 ⟨Ag3, gc3, rfl, hK, hfr, V3, hT, hC, hF⟩
  obtain ⟨hs, hc⟩ := S2.out.stepT hT hC hF
  have S3 := Lib.hid hs
  have C3 := Lib.hid hc
  have OB3 := Lib.hid (S2.out.blkT hC OB2.out (by decide) (by decide) (by decide))
  have K3 := Lib.hid hK
  have F3 := Lib.hid hfr
  clear GA hT hC hF hs hc hK hfr
  refine hK.out _ _ (⟨S3.out.px.cell 0, OB3.out.cell 2, OB3.out.cell 4⟩) (fun hHeld => ?_)
  clear hK K
  try simp only [Act.put, List.setIfInBounds_toArray, List.set_cons_zero, List.set_cons_succ]
  refine take_on (i := 9) (some 71) (v := ?vr39) rfl rfl (by kernel_rfl) (by kernel_rfl) (by kernel_rfl) (fun _ _ _ h => h) (by rfl) ?hyr39 (by with_reducible exact hHeld) ?restr39
  case hyr39 => (intro wS hSw; (try dsimp only at hSw); go_simp; try with_reducible rfl)
  try simp only [Act.put, List.setIfInBounds_toArray, List.set_cons_zero, List.set_cons_succ]
  refine take_on (i := 10) (some 81) (v := ?vr40) rfl rfl (by kernel_rfl) (by kernel_rfl) (by kernel_rfl) (fun _ _ _ h => h) (by rfl) ?hyr40 (by with_reducible exact hHeld) ?restr40
  case hyr40 => (intro wS hSw; (try dsimp only at hSw); go_simp; try with_reducible rfl)
  try simp only [Act.put, List.setIfInBounds_toArray, List.set_cons_zero, List.set_cons_succ]
  refine take_on (i := 11) (some 82) (v := ?vr41) rfl rfl (by kernel_rfl) (by kernel_rfl) (by kernel_rfl) (fun _ _ _ h => h) (by rfl) ?hyr41 (by with_reducible exact hHeld) ?restr41
  case hyr41 => (intro wS hSw; (try dsimp only at hSw); go_simp; try with_reducible rfl)
  try simp only [Act.put, List.setIfInBounds_toArray, List.set_cons_zero, List.set_cons_succ]
  refine take_on (i := 12) (some 9) (v := ?vr42) rfl rfl (by kernel_rfl) (by kernel_rfl) (by kernel_rfl) (fun _ _ _ h => h) (by rfl) ?hyr42 (by with_reducible exact hHeld) ?restr42
  case hyr42 => (intro wS hSw; (try dsimp only at hSw); go_simp; try with_reducible rfl)
  try simp only [Act.put, List.setIfInBounds_toArray, List.set_cons_zero, List.set_cons_succ]
  refine take_on (i := 13) (some 10) (v := ?vr43) rfl rfl (by kernel_rfl) (by kernel_rfl) (by kernel_rfl) (fun _ _ _ h => h) (by rfl) ?hyr43 (by with_reducible exact hHeld) ?restr43
  case hyr43 => (intro wS hSw; (try dsimp only at hSw); go_simp; try with_reducible rfl)
  try simp only [Act.put, List.setIfInBounds_toArray, List.set_cons_zero, List.set_cons_succ]
  refine wpAnyH_done (by kernel_rfl) ?_ _
  refine NoPanic.normal ?_
  go_upto_region 8 with fail
  have S4 := Lib.hid (S3.out.below (Below.refl w3.heap.size w3).drew)
  have OB4 := Lib.hid (show Blk w3.drew O 33 _ from OB3.out)
  have K4 := Lib.hid (K3.out.below (Below.refl w3.heap.size w3).drew)
  have gr := rrel_any base R n i c most A P turns wait L ex owner w3.drew S4.out.ref HG.out hn (by omega)
  rw [← HPA.out] at gr
  rw [HGN.out] at gr
  have GR := Lib.hid gr
  clear gr
  refine wp_region_noPanic ?_
  refine wp_region_held_drew (S := fun w' => w'.cell? ⟨X, 1, none⟩ = some (.pointer (some ⟨R, 0, none⟩)) ∧ w'.cell? ⟨O, 2, none⟩ = some (.int .i64 ex) ∧ w'.cell? ⟨O, 4, none⟩ = some (.int .i64 owner)) (by kernel_rfl) (⟨S4.out.px.cell 1, OB4.out.cell 2, OB4.out.cell 4⟩) (fun hHeld => ?_)
  refine take_on (i := 0) (some 84) (v := ?vr44) rfl rfl (by kernel_rfl) (by kernel_rfl) (by kernel_rfl) (fun _ _ _ h => h) (by rfl) ?hyr44 (by with_reducible exact hHeld) ?restr44
  case hyr44 => (intro wS hSw; (try dsimp only at hSw); go_simp; try with_reducible rfl)
  try simp only [Act.put, List.setIfInBounds_toArray, List.set_cons_zero, List.set_cons_succ]
  refine take_on (i := 1) (some 85) (v := ?vr45) rfl rfl (by kernel_rfl) (by kernel_rfl) (by kernel_rfl) (fun _ _ _ h => h) (by rfl) ?hyr45 (by with_reducible exact hHeld) ?restr45
  case hyr45 => (intro wS hSw; (try dsimp only at hSw); go_simp; try with_reducible rfl)
  try simp only [Act.put, List.setIfInBounds_toArray, List.set_cons_zero, List.set_cons_succ]
  refine take_on (i := 2) (some 86) (v := ?vr46) rfl rfl (by kernel_rfl) (by kernel_rfl) (by kernel_rfl) (fun _ _ _ h => h) (by rfl) ?hyr46 (by with_reducible exact hHeld) ?restr46
  case hyr46 => (intro wS hSw; (try dsimp only at hSw); go_simp; try with_reducible rfl)
  try simp only [Act.put, List.setIfInBounds_toArray, List.set_cons_zero, List.set_cons_succ]
  refine take_on (i := 3) (some 87) (v := ?vr47) rfl rfl (by kernel_rfl) (by kernel_rfl) (by kernel_rfl) (fun _ _ _ h => h) (by rfl) ?hyr47 (by with_reducible exact hHeld) ?restr47
  case hyr47 => (intro wS hSw; (try dsimp only at hSw); go_simp; try with_reducible rfl)
  try simp only [Act.put, List.setIfInBounds_toArray, List.set_cons_zero, List.set_cons_succ]
  refine take_on (i := 4) (some 88) (v := ?vr48) rfl rfl (by kernel_rfl) (by kernel_rfl) (by kernel_rfl) (fun _ _ _ h => h) (by rfl) ?hyr48 (by with_reducible exact hHeld) ?restr48
  case hyr48 => (intro wS hSw; (try dsimp only at hSw); go_simp; try with_reducible rfl)
  try simp only [Act.put, List.setIfInBounds_toArray, List.set_cons_zero, List.set_cons_succ]
  refine take_on (i := 5) (some 89) (v := ?vr49) rfl rfl (by kernel_rfl) (by kernel_rfl) (by kernel_rfl) (fun _ _ _ h => h) (by rfl) ?hyr49 (by with_reducible exact hHeld) ?restr49
  case hyr49 => (intro wS hSw; (try dsimp only at hSw); go_simp; try with_reducible rfl)
  try simp only [Act.put, List.setIfInBounds_toArray, List.set_cons_zero, List.set_cons_succ]
  refine take_on (i := 6) (some 90) (v := ?vr50) rfl rfl (by kernel_rfl) (by kernel_rfl) (by kernel_rfl) (fun _ _ _ h => h) (by rfl) ?hyr50 (by with_reducible exact hHeld) ?restr50
  case hyr50 => (intro wS hSw; (try dsimp only at hSw); go_simp; try with_reducible rfl)
  try simp only [Act.put, List.setIfInBounds_toArray, List.set_cons_zero, List.set_cons_succ]
  refine take_on (i := 7) (some 91) (v := ?vr51) rfl rfl (by kernel_rfl) (by kernel_rfl) (by kernel_rfl) (fun _ _ _ h => h) (by rfl) ?hyr51 (by with_reducible exact hHeld) ?restr51
  case hyr51 => (intro wS hSw; (try dsimp only at hSw); go_simp; try with_reducible rfl)
  try simp only [Act.put, List.setIfInBounds_toArray, List.set_cons_zero, List.set_cons_succ]
  refine wpAnyH_ready (rs := [8]) (by kernel_rfl) (by simp) ?_
  refine AllReadyH.cons rfl (fun K hK => ?_) AllReadyH.nil
  go_simp
  with_reducible refine GR.out.mono ?_
  rintro e w5 ⟨Ag5, gc5, rfl, hK, A5, c5, P5, t5, hR, hC, hF⟩
  obtain ⟨hs, hc⟩ := S4.out.stepR hR hC hF
  have S5 := Lib.hid hs
  have C5 := Lib.hid hc
  have OB5 := Lib.hid (S4.out.blkR hC OB4.out (by decide) (by decide))
  have K5 := Lib.hid (K4.out.keepR S4.out hC)
  have RD5 := Lib.hid hK.kept.1
  clear GR hR hC hF hs hc hK
  refine hK.out _ _ (⟨S5.out.px.cell 1, OB5.out.cell 2, OB5.out.cell 4⟩) (fun hHeld => ?_)
  clear hK K
  try simp only [Act.put, List.setIfInBounds_toArray, List.set_cons_zero, List.set_cons_succ]
  refine take_on (i := 9) (some 83) (v := ?vr52) rfl rfl (by kernel_rfl) (by kernel_rfl) (by kernel_rfl) (fun _ _ _ h => h) (by rfl) ?hyr52 (by with_reducible exact hHeld) ?restr52
  case hyr52 => (intro wS hSw; (try dsimp only at hSw); go_simp; try with_reducible rfl)
  try simp only [Act.put, List.setIfInBounds_toArray, List.set_cons_zero, List.set_cons_succ]
  refine take_on (i := 10) (some 93) (v := ?vr53) rfl rfl (by kernel_rfl) (by kernel_rfl) (by kernel_rfl) (fun _ _ _ h => h) (by rfl) ?hyr53 (by with_reducible exact hHeld) ?restr53
  case hyr53 => (intro wS hSw; (try dsimp only at hSw); go_simp; try with_reducible rfl)
  try simp only [Act.put, List.setIfInBounds_toArray, List.set_cons_zero, List.set_cons_succ]
  refine take_on (i := 11) (some 94) (v := ?vr54) rfl rfl (by kernel_rfl) (by kernel_rfl) (by kernel_rfl) (fun _ _ _ h => h) (by rfl) ?hyr54 (by with_reducible exact hHeld) ?restr54
  case hyr54 => (intro wS hSw; (try dsimp only at hSw); go_simp; try with_reducible rfl)
  try simp only [Act.put, List.setIfInBounds_toArray, List.set_cons_zero, List.set_cons_succ]
  refine take_on (i := 12) (some 11) (v := ?vr55) rfl rfl (by kernel_rfl) (by kernel_rfl) (by kernel_rfl) (fun _ _ _ h => h) (by rfl) ?hyr55 (by with_reducible exact hHeld) ?restr55
  case hyr55 => (intro wS hSw; (try dsimp only at hSw); go_simp; try with_reducible rfl)
  try simp only [Act.put, List.setIfInBounds_toArray, List.set_cons_zero, List.set_cons_succ]
  refine take_on (i := 13) (some 12) (v := ?vr56) rfl rfl (by kernel_rfl) (by kernel_rfl) (by kernel_rfl) (fun _ _ _ h => h) (by rfl) ?hyr56 (by with_reducible exact hHeld) ?restr56
  case hyr56 => (intro wS hSw; (try dsimp only at hSw); go_simp; try with_reducible rfl)
  try simp only [Act.put, List.setIfInBounds_toArray, List.set_cons_zero, List.set_cons_succ]
  refine wpAnyH_done (by kernel_rfl) ?_ _
  refine NoPanic.normal ?_
  have gs := Lib.hid (same_yes Ag3 Ag5 gc3 gc5 gn pa.2.2.1 w5 HGN.out (by omega) K5.out.kept.1 RD5.out)
  have e1 : (pa.2.2.2 == pa.2.2.2) = true := by simp
  go_wp2_with fail
  refine gs.out.mono ?_
  rintro e w6 ⟨rfl, hB6⟩
  have S6 := Lib.hid (S5.out.below hB6)
  have C6 := Lib.hid (S5.out.chgB hB6)
  have K6 := Lib.hid (K5.out.below hB6)
  have x2 : w6.cell? ⟨X, 2, none⟩ = some (.pointer (some ⟨B, 0, none⟩)) := S6.out.px.cell 2
  have gk := Lib.hid (keepI_any S6.out.bk (by omega) K6.out HGN.out hgb (fun k hk => by
      obtain ⟨a, e, rfl⟩ := hk
      exact ⟨Nat.le_trans hbw1 (F3.out a e), F3.out a e⟩) (by have := C3.out.size; have := C5.out.size; have := hB6.size; simp only [World.drew] at *; omega))
  clear gs hB6
  go_wp2_with fail
  refine gk.out.mono ?_
  rintro e w7 ⟨rfl, hb7, hc7⟩
  obtain ⟨hs, hc⟩ := S6.out.stepB hb7 hc7
  have S7 := Lib.hid hs
  have C7 := Lib.hid hc
  clear gk hb7 hc7 hs hc x2
  go_wp2
  go_ret
  have cc := df_trans (df_trans (df_trans (df_trans C1.out (df_trans ((Chg.refl (DF base D) w1).drew) C3.out)) (df_trans ((Chg.refl (DF base D) w3).drew) C5.out)) C6.out) C7.out
  exact ⟨rfl, ⟨V3, pa.2.1, pa.1, A5, c5, P5, t5, S7.out.mono (Nat.le_succ i) (Nat.le_refl _) (Nat.le_refl _), IA.out, GDA.out, MA⟩, cc⟩
set_option maxRecDepth 20000 in
set_option maxHeartbeats 16000000 in
theorem step_holders (base X T E R B n i : Nat) (most : Int) (late : Bool) (q : Nat) (D : Nat → Prop) (ex mode owner : Int) (sec : Bool) (w : World) (hst : StI base w X T E R B n i most late q D) (hn : n ≤ 4096) (hm : most ≤ 512) (hi : i ≤ 300000000000) (hq : q ≤ 300000000000) (hbw : base ≤ w.heap.size) :
    Calls Try.prog 27 #[.pointer (some ⟨X, 0, none⟩), .agg (opC 5 sec ex mode owner)] w (StepPost base w X T E R B n i most late q D) := by
  obtain ⟨V, wait, L, A, c, P, turns, hS, hI, hG, hM⟩ := hst
  have hw0 := hI.waits
  have hwb : 0 ≤ wait ∧ wait ≤ 1000000 := by omega
  have ln4 := hI.lens4 (show i ≤ 4000000000000 by omega)
  have row6 := hI.row6 hwb.2
  obtain ⟨O, hO⟩ : ∃ O, O = w.heap.size := ⟨_, rfl⟩
  obtain ⟨w1, hw1⟩ : ∃ w1, w1 = w.alloc (.cells (opC 5 sec ex mode owner) 33) := ⟨_, rfl⟩
  have hB1 : Below w.heap.size w w1 := by rw [hw1]; exact (Below.refl _ _).alloc (Nat.le_refl _) _
  have S1 := Lib.hid ((hS.below hB1).mono (Nat.le_refl i) (Nat.le_refl q) hB1.size)
  have C1 := Lib.hid (hS.chgB hB1)
  have OB1 := Lib.hid (show Blk w1 O 33 (opC 5 sec ex mode owner) by rw [hw1, hO]; exact Blk.new w _ _)
  have HI := Lib.hid hI
  have HG := Lib.hid hG
  have LN := Lib.hid ln4
  have RW := Lib.hid row6
  have k0 : w1.cell? ⟨O, 0, none⟩ = some (.int .i64 5) := OB1.out.cell 0
  have hbw1 : base ≤ w1.heap.size := Nat.le_trans hbw hB1.size
  clear hS hI hG ln4 row6 hB1 hw0
  go_enter Try.func27, Try.ntmps27
  go_upto_region 21 with fail
  rw [← hw1, ← hO]
  clear hw1 hO
  have S2 := Lib.hid (S1.out.below (Below.refl w1.heap.size w1).drew)
  have OB2 := Lib.hid (show Blk w1.drew O 33 _ from OB1.out)
  obtain ⟨pa, hpa⟩ : ∃ pa, pa = listT n L ex 0 := ⟨_, rfl⟩
  have ga := holdersO_any base T E n most ex V wait L w1.drew S2.out.tab hn LN.out hwb
  have hll : (listT n L ex 0).1.length ≤ 4000000000000 := by
    unfold listT
    split
    · exact Nat.zero_le _
    · next hx =>
      have hx2 : 0 ≤ ex ∧ ex < (n : Int) := Classical.not_not.1 hx
      split
      · dsimp only; rw [List.length_map]; exact LN.out _ (by omega)
      · dsimp only; rw [List.length_map]; exact LN.out _ (by omega)
  rw [← hpa] at ga hll
  obtain ⟨gn, hgn⟩ : ∃ gn, gn = pa.1.length := ⟨_, rfl⟩
  rw [← hgn] at ga hll
  have hgb : gn ≤ 4000000000000 := hll
  have GA := Lib.hid ga
  have HPA := Lib.hid hpa
  have HGN := Lib.hid hgn.symm
  clear ga hpa hll hgn
  refine wp_region_noPanic ?_
  refine wp_region_held_drew (S := fun w' => w'.cell? ⟨X, 0, none⟩ = some (.pointer (some ⟨T, 0, none⟩)) ∧ w'.cell? ⟨O, 2, none⟩ = some (.int .i64 ex)) (by kernel_rfl) (⟨S2.out.px.cell 0, OB2.out.cell 2⟩) (fun hHeld => ?_)
  refine take_on (i := 0) (some 160) (v := ?vr57) rfl rfl (by kernel_rfl) (by kernel_rfl) (by kernel_rfl) (fun _ _ _ h => h) (by rfl) ?hyr57 (by with_reducible exact hHeld) ?restr57
  case hyr57 => (intro wS hSw; (try dsimp only at hSw); go_simp; try with_reducible rfl)
  try simp only [Act.put, List.setIfInBounds_toArray, List.set_cons_zero, List.set_cons_succ]
  refine take_on (i := 1) (some 161) (v := ?vr58) rfl rfl (by kernel_rfl) (by kernel_rfl) (by kernel_rfl) (fun _ _ _ h => h) (by rfl) ?hyr58 (by with_reducible exact hHeld) ?restr58
  case hyr58 => (intro wS hSw; (try dsimp only at hSw); go_simp; try with_reducible rfl)
  try simp only [Act.put, List.setIfInBounds_toArray, List.set_cons_zero, List.set_cons_succ]
  refine take_on (i := 2) (some 162) (v := ?vr59) rfl rfl (by kernel_rfl) (by kernel_rfl) (by kernel_rfl) (fun _ _ _ h => h) (by rfl) ?hyr59 (by with_reducible exact hHeld) ?restr59
  case hyr59 => (intro wS hSw; (try dsimp only at hSw); go_simp; try with_reducible rfl)
  try simp only [Act.put, List.setIfInBounds_toArray, List.set_cons_zero, List.set_cons_succ]
  refine take_on (i := 3) (some 163) (v := ?vr60) rfl rfl (by kernel_rfl) (by kernel_rfl) (by kernel_rfl) (fun _ _ _ h => h) (by rfl) ?hyr60 (by with_reducible exact hHeld) ?restr60
  case hyr60 => (intro wS hSw; (try dsimp only at hSw); go_simp; try with_reducible rfl)
  try simp only [Act.put, List.setIfInBounds_toArray, List.set_cons_zero, List.set_cons_succ]
  refine take_on (i := 4) (some 164) (v := ?vr61) rfl rfl (by kernel_rfl) (by kernel_rfl) (by kernel_rfl) (fun _ _ _ h => h) (by rfl) ?hyr61 (by with_reducible exact hHeld) ?restr61
  case hyr61 => (intro wS hSw; (try dsimp only at hSw); go_simp; try with_reducible rfl)
  try simp only [Act.put, List.setIfInBounds_toArray, List.set_cons_zero, List.set_cons_succ]
  refine take_on (i := 5) (some 165) (v := ?vr62) rfl rfl (by kernel_rfl) (by kernel_rfl) (by kernel_rfl) (fun _ _ _ h => h) (by rfl) ?hyr62 (by with_reducible exact hHeld) ?restr62
  case hyr62 => (intro wS hSw; (try dsimp only at hSw); go_simp; try with_reducible rfl)
  try simp only [Act.put, List.setIfInBounds_toArray, List.set_cons_zero, List.set_cons_succ]
  refine wpAnyH_ready (rs := [6]) (by kernel_rfl) (by simp) ?_
  refine AllReadyH.cons rfl (fun K hK => ?_) AllReadyH.nil
  go_simp
  with_reducible refine GA.out.mono ?_
  rintro e w3 ⟨Ag3, gc3, rfl, hK, hfr, V3, hT, hC, hF⟩
  obtain ⟨hs, hc⟩ := S2.out.stepT hT hC hF
  have S3 := Lib.hid hs
  have C3 := Lib.hid hc
  have OB3 := Lib.hid (S2.out.blkT hC OB2.out (by decide) (by decide) (by decide))
  have K3 := Lib.hid hK
  have F3 := Lib.hid hfr
  clear GA hT hC hF hs hc hK hfr
  refine hK.out _ _ (⟨S3.out.px.cell 0, OB3.out.cell 2⟩) (fun hHeld => ?_)
  clear hK K
  try simp only [Act.put, List.setIfInBounds_toArray, List.set_cons_zero, List.set_cons_succ]
  refine take_on (i := 7) (some 159) (v := ?vr63) rfl rfl (by kernel_rfl) (by kernel_rfl) (by kernel_rfl) (fun _ _ _ h => h) (by rfl) ?hyr63 (by with_reducible exact hHeld) ?restr63
  case hyr63 => (intro wS hSw; (try dsimp only at hSw); go_simp; try with_reducible rfl)
  try simp only [Act.put, List.setIfInBounds_toArray, List.set_cons_zero, List.set_cons_succ]
  refine take_on (i := 8) (some 167) (v := ?vr64) rfl rfl (by kernel_rfl) (by kernel_rfl) (by kernel_rfl) (fun _ _ _ h => h) (by rfl) ?hyr64 (by with_reducible exact hHeld) ?restr64
  case hyr64 => (intro wS hSw; (try dsimp only at hSw); go_simp; try with_reducible rfl)
  try simp only [Act.put, List.setIfInBounds_toArray, List.set_cons_zero, List.set_cons_succ]
  refine take_on (i := 9) (some 168) (v := ?vr65) rfl rfl (by kernel_rfl) (by kernel_rfl) (by kernel_rfl) (fun _ _ _ h => h) (by rfl) ?hyr65 (by with_reducible exact hHeld) ?restr65
  case hyr65 => (intro wS hSw; (try dsimp only at hSw); go_simp; try with_reducible rfl)
  try simp only [Act.put, List.setIfInBounds_toArray, List.set_cons_zero, List.set_cons_succ]
  refine take_on (i := 10) (some 169) (v := ?vr66) rfl rfl (by kernel_rfl) (by kernel_rfl) (by kernel_rfl) (fun _ _ _ h => h) (by rfl) ?hyr66 (by with_reducible exact hHeld) ?restr66
  case hyr66 => (intro wS hSw; (try dsimp only at hSw); go_simp; try with_reducible rfl)
  try simp only [Act.put, List.setIfInBounds_toArray, List.set_cons_zero, List.set_cons_succ]
  refine take_on (i := 11) (some 17) (v := ?vr67) rfl rfl (by kernel_rfl) (by kernel_rfl) (by kernel_rfl) (fun _ _ _ h => h) (by rfl) ?hyr67 (by with_reducible exact hHeld) ?restr67
  case hyr67 => (intro wS hSw; (try dsimp only at hSw); go_simp; try with_reducible rfl)
  try simp only [Act.put, List.setIfInBounds_toArray, List.set_cons_zero, List.set_cons_succ]
  refine take_on (i := 12) (some 18) (v := ?vr68) rfl rfl (by kernel_rfl) (by kernel_rfl) (by kernel_rfl) (fun _ _ _ h => h) (by rfl) ?hyr68 (by with_reducible exact hHeld) ?restr68
  case hyr68 => (intro wS hSw; (try dsimp only at hSw); go_simp; try with_reducible rfl)
  try simp only [Act.put, List.setIfInBounds_toArray, List.set_cons_zero, List.set_cons_succ]
  refine take_on (i := 13) (some 19) (v := ?vr69) rfl rfl (by kernel_rfl) (by kernel_rfl) (by kernel_rfl) (fun _ _ _ h => h) (by rfl) ?hyr69 (by with_reducible exact hHeld) ?restr69
  case hyr69 => (intro wS hSw; (try dsimp only at hSw); go_simp; try with_reducible rfl)
  try simp only [Act.put, List.setIfInBounds_toArray, List.set_cons_zero, List.set_cons_succ]
  refine wpAnyH_done (by kernel_rfl) ?_ _
  refine NoPanic.normal ?_
  go_upto_region 22 with fail
  have S4 := Lib.hid (S3.out.below (Below.refl w3.heap.size w3).drew)
  have OB4 := Lib.hid (show Blk w3.drew O 33 _ from OB3.out)
  have K4 := Lib.hid (K3.out.below (Below.refl w3.heap.size w3).drew)
  have gr := rholders_any base R n i c most A P turns L ex w3.drew S4.out.ref HG.out (by omega)
  rw [← HPA.out] at gr
  rw [HGN.out] at gr
  have GR := Lib.hid gr
  clear gr
  refine wp_region_noPanic ?_
  refine wp_region_held_drew (S := fun w' => w'.cell? ⟨X, 1, none⟩ = some (.pointer (some ⟨R, 0, none⟩)) ∧ w'.cell? ⟨O, 2, none⟩ = some (.int .i64 ex)) (by kernel_rfl) (⟨S4.out.px.cell 1, OB4.out.cell 2⟩) (fun hHeld => ?_)
  refine take_on (i := 0) (some 171) (v := ?vr70) rfl rfl (by kernel_rfl) (by kernel_rfl) (by kernel_rfl) (fun _ _ _ h => h) (by rfl) ?hyr70 (by with_reducible exact hHeld) ?restr70
  case hyr70 => (intro wS hSw; (try dsimp only at hSw); go_simp; try with_reducible rfl)
  try simp only [Act.put, List.setIfInBounds_toArray, List.set_cons_zero, List.set_cons_succ]
  refine take_on (i := 1) (some 172) (v := ?vr71) rfl rfl (by kernel_rfl) (by kernel_rfl) (by kernel_rfl) (fun _ _ _ h => h) (by rfl) ?hyr71 (by with_reducible exact hHeld) ?restr71
  case hyr71 => (intro wS hSw; (try dsimp only at hSw); go_simp; try with_reducible rfl)
  try simp only [Act.put, List.setIfInBounds_toArray, List.set_cons_zero, List.set_cons_succ]
  refine take_on (i := 2) (some 173) (v := ?vr72) rfl rfl (by kernel_rfl) (by kernel_rfl) (by kernel_rfl) (fun _ _ _ h => h) (by rfl) ?hyr72 (by with_reducible exact hHeld) ?restr72
  case hyr72 => (intro wS hSw; (try dsimp only at hSw); go_simp; try with_reducible rfl)
  try simp only [Act.put, List.setIfInBounds_toArray, List.set_cons_zero, List.set_cons_succ]
  refine take_on (i := 3) (some 174) (v := ?vr73) rfl rfl (by kernel_rfl) (by kernel_rfl) (by kernel_rfl) (fun _ _ _ h => h) (by rfl) ?hyr73 (by with_reducible exact hHeld) ?restr73
  case hyr73 => (intro wS hSw; (try dsimp only at hSw); go_simp; try with_reducible rfl)
  try simp only [Act.put, List.setIfInBounds_toArray, List.set_cons_zero, List.set_cons_succ]
  refine take_on (i := 4) (some 175) (v := ?vr74) rfl rfl (by kernel_rfl) (by kernel_rfl) (by kernel_rfl) (fun _ _ _ h => h) (by rfl) ?hyr74 (by with_reducible exact hHeld) ?restr74
  case hyr74 => (intro wS hSw; (try dsimp only at hSw); go_simp; try with_reducible rfl)
  try simp only [Act.put, List.setIfInBounds_toArray, List.set_cons_zero, List.set_cons_succ]
  refine take_on (i := 5) (some 176) (v := ?vr75) rfl rfl (by kernel_rfl) (by kernel_rfl) (by kernel_rfl) (fun _ _ _ h => h) (by rfl) ?hyr75 (by with_reducible exact hHeld) ?restr75
  case hyr75 => (intro wS hSw; (try dsimp only at hSw); go_simp; try with_reducible rfl)
  try simp only [Act.put, List.setIfInBounds_toArray, List.set_cons_zero, List.set_cons_succ]
  refine wpAnyH_ready (rs := [6]) (by kernel_rfl) (by simp) ?_
  refine AllReadyH.cons rfl (fun K hK => ?_) AllReadyH.nil
  go_simp
  with_reducible refine GR.out.mono ?_
  rintro e w5 ⟨Ag5, gc5, rfl, hrd, hB⟩
  have S5 := Lib.hid (S4.out.below hB)
  have C5 := Lib.hid (S4.out.chgB hB)
  have OB5 := Lib.hid (OB4.out.below hB OB4.out.lt)
  have K5 := Lib.hid (K4.out.below hB)
  have RD5 := Lib.hid hrd
  clear GR hB hrd
  refine hK.out _ _ (⟨S5.out.px.cell 1, OB5.out.cell 2⟩) (fun hHeld => ?_)
  clear hK K
  try simp only [Act.put, List.setIfInBounds_toArray, List.set_cons_zero, List.set_cons_succ]
  refine take_on (i := 7) (some 170) (v := ?vr76) rfl rfl (by kernel_rfl) (by kernel_rfl) (by kernel_rfl) (fun _ _ _ h => h) (by rfl) ?hyr76 (by with_reducible exact hHeld) ?restr76
  case hyr76 => (intro wS hSw; (try dsimp only at hSw); go_simp; try with_reducible rfl)
  try simp only [Act.put, List.setIfInBounds_toArray, List.set_cons_zero, List.set_cons_succ]
  refine take_on (i := 8) (some 178) (v := ?vr77) rfl rfl (by kernel_rfl) (by kernel_rfl) (by kernel_rfl) (fun _ _ _ h => h) (by rfl) ?hyr77 (by with_reducible exact hHeld) ?restr77
  case hyr77 => (intro wS hSw; (try dsimp only at hSw); go_simp; try with_reducible rfl)
  try simp only [Act.put, List.setIfInBounds_toArray, List.set_cons_zero, List.set_cons_succ]
  refine take_on (i := 9) (some 179) (v := ?vr78) rfl rfl (by kernel_rfl) (by kernel_rfl) (by kernel_rfl) (fun _ _ _ h => h) (by rfl) ?hyr78 (by with_reducible exact hHeld) ?restr78
  case hyr78 => (intro wS hSw; (try dsimp only at hSw); go_simp; try with_reducible rfl)
  try simp only [Act.put, List.setIfInBounds_toArray, List.set_cons_zero, List.set_cons_succ]
  refine take_on (i := 10) (some 180) (v := ?vr79) rfl rfl (by kernel_rfl) (by kernel_rfl) (by kernel_rfl) (fun _ _ _ h => h) (by rfl) ?hyr79 (by with_reducible exact hHeld) ?restr79
  case hyr79 => (intro wS hSw; (try dsimp only at hSw); go_simp; try with_reducible rfl)
  try simp only [Act.put, List.setIfInBounds_toArray, List.set_cons_zero, List.set_cons_succ]
  refine take_on (i := 11) (some 20) (v := ?vr80) rfl rfl (by kernel_rfl) (by kernel_rfl) (by kernel_rfl) (fun _ _ _ h => h) (by rfl) ?hyr80 (by with_reducible exact hHeld) ?restr80
  case hyr80 => (intro wS hSw; (try dsimp only at hSw); go_simp; try with_reducible rfl)
  try simp only [Act.put, List.setIfInBounds_toArray, List.set_cons_zero, List.set_cons_succ]
  refine take_on (i := 12) (some 21) (v := ?vr81) rfl rfl (by kernel_rfl) (by kernel_rfl) (by kernel_rfl) (fun _ _ _ h => h) (by rfl) ?hyr81 (by with_reducible exact hHeld) ?restr81
  case hyr81 => (intro wS hSw; (try dsimp only at hSw); go_simp; try with_reducible rfl)
  try simp only [Act.put, List.setIfInBounds_toArray, List.set_cons_zero, List.set_cons_succ]
  refine take_on (i := 13) (some 22) (v := ?vr82) rfl rfl (by kernel_rfl) (by kernel_rfl) (by kernel_rfl) (fun _ _ _ h => h) (by rfl) ?hyr82 (by with_reducible exact hHeld) ?restr82
  case hyr82 => (intro wS hSw; (try dsimp only at hSw); go_simp; try with_reducible rfl)
  try simp only [Act.put, List.setIfInBounds_toArray, List.set_cons_zero, List.set_cons_succ]
  refine wpAnyH_done (by kernel_rfl) ?_ _
  refine NoPanic.normal ?_
  have gs := Lib.hid (same_yes Ag3 Ag5 gc3 gc5 gn pa.1 w5 HGN.out (by omega) K5.out.kept.1 RD5.out)
  have e1 : (pa.2.2 == pa.2.2) = true := by simp
  have e2 : (pa.2.1 == pa.2.1) = true := by simp
  go_wp2_with fail
  refine gs.out.mono ?_
  rintro e w6 ⟨rfl, hB6⟩
  have S6 := Lib.hid (S5.out.below hB6)
  have C6 := Lib.hid (S5.out.chgB hB6)
  have K6 := Lib.hid (K5.out.below hB6)
  have x2 : w6.cell? ⟨X, 2, none⟩ = some (.pointer (some ⟨B, 0, none⟩)) := S6.out.px.cell 2
  have gk := Lib.hid (keepI_any S6.out.bk (by omega) K6.out HGN.out hgb (fun k hk => by
      obtain ⟨a, e, rfl⟩ := hk
      exact ⟨Nat.le_trans hbw1 (F3.out a e), F3.out a e⟩) (by have := C3.out.size; have := C5.out.size; have := hB6.size; simp only [World.drew] at *; omega))
  clear gs hB6
  go_wp2_with fail
  refine gk.out.mono ?_
  rintro e w7 ⟨rfl, hb7, hc7⟩
  obtain ⟨hs, hc⟩ := S6.out.stepB hb7 hc7
  have S7 := Lib.hid hs
  have C7 := Lib.hid hc
  clear gk hb7 hc7 hs hc x2
  go_wp2
  go_ret
  have cc := df_trans (df_trans (df_trans (df_trans C1.out (df_trans ((Chg.refl (DF base D) w1).drew) C3.out)) (df_trans ((Chg.refl (DF base D) w3).drew) C5.out)) C6.out) C7.out
  exact ⟨rfl, ⟨V3, wait, L, A, c, P, turns, S7.out.mono (Nat.le_succ i) (Nat.le_refl _) (Nat.le_refl _), HI.out.mono (Nat.le_succ i), HG.out, hM⟩, cc⟩
set_option maxRecDepth 20000 in
set_option maxHeartbeats 16000000 in
theorem step_waiters (base X T E R B n i : Nat) (most : Int) (late : Bool) (q : Nat) (D : Nat → Prop) (ex mode owner : Int) (sec : Bool) (w : World) (hst : StI base w X T E R B n i most late q D) (hn : n ≤ 4096) (hm : most ≤ 512) (hi : i ≤ 300000000000) (hq : q ≤ 300000000000) (hbw : base ≤ w.heap.size) :
    Calls Try.prog 27 #[.pointer (some ⟨X, 0, none⟩), .agg (opC 6 sec ex mode owner)] w (StepPost base w X T E R B n i most late q D) := by
  obtain ⟨V, wait, L, A, c, P, turns, hS, hI, hG, hM⟩ := hst
  have hw0 := hI.waits
  have hwb : 0 ≤ wait ∧ wait ≤ 1000000 := by omega
  have ln4 := hI.lens4 (show i ≤ 4000000000000 by omega)
  have row6 := hI.row6 hwb.2
  obtain ⟨O, hO⟩ : ∃ O, O = w.heap.size := ⟨_, rfl⟩
  obtain ⟨w1, hw1⟩ : ∃ w1, w1 = w.alloc (.cells (opC 6 sec ex mode owner) 33) := ⟨_, rfl⟩
  have hB1 : Below w.heap.size w w1 := by rw [hw1]; exact (Below.refl _ _).alloc (Nat.le_refl _) _
  have S1 := Lib.hid ((hS.below hB1).mono (Nat.le_refl i) (Nat.le_refl q) hB1.size)
  have C1 := Lib.hid (hS.chgB hB1)
  have OB1 := Lib.hid (show Blk w1 O 33 (opC 6 sec ex mode owner) by rw [hw1, hO]; exact Blk.new w _ _)
  have HI := Lib.hid hI
  have HG := Lib.hid hG
  have LN := Lib.hid ln4
  have RW := Lib.hid row6
  have k0 : w1.cell? ⟨O, 0, none⟩ = some (.int .i64 6) := OB1.out.cell 0
  have hbw1 : base ≤ w1.heap.size := Nat.le_trans hbw hB1.size
  clear hS hI hG ln4 row6 hB1 hw0
  go_enter Try.func27, Try.ntmps27
  go_upto_region 27 with fail
  rw [← hw1, ← hO]
  clear hw1 hO
  have S2 := Lib.hid (S1.out.below (Below.refl w1.heap.size w1).drew)
  have OB2 := Lib.hid (show Blk w1.drew O 33 _ from OB1.out)
  obtain ⟨pa, hpa⟩ : ∃ pa, pa = listT n L ex 1 := ⟨_, rfl⟩
  have ga := waitersO_any base T E n most ex V wait L w1.drew S2.out.tab hn LN.out hwb
  have hll : (listT n L ex 1).1.length ≤ 4000000000000 := by
    unfold listT
    split
    · exact Nat.zero_le _
    · next hx =>
      have hx2 : 0 ≤ ex ∧ ex < (n : Int) := Classical.not_not.1 hx
      split
      · dsimp only; rw [List.length_map]; exact LN.out _ (by omega)
      · dsimp only; rw [List.length_map]; exact LN.out _ (by omega)
  rw [← hpa] at ga hll
  obtain ⟨gn, hgn⟩ : ∃ gn, gn = pa.1.length := ⟨_, rfl⟩
  rw [← hgn] at ga hll
  have hgb : gn ≤ 4000000000000 := hll
  have GA := Lib.hid ga
  have HPA := Lib.hid hpa
  have HGN := Lib.hid hgn.symm
  clear ga hpa hll hgn
  refine wp_region_noPanic ?_
  refine wp_region_held_drew (S := fun w' => w'.cell? ⟨X, 0, none⟩ = some (.pointer (some ⟨T, 0, none⟩)) ∧ w'.cell? ⟨O, 2, none⟩ = some (.int .i64 ex)) (by kernel_rfl) (⟨S2.out.px.cell 0, OB2.out.cell 2⟩) (fun hHeld => ?_)
  refine take_on (i := 0) (some 204) (v := ?vr83) rfl rfl (by kernel_rfl) (by kernel_rfl) (by kernel_rfl) (fun _ _ _ h => h) (by rfl) ?hyr83 (by with_reducible exact hHeld) ?restr83
  case hyr83 => (intro wS hSw; (try dsimp only at hSw); go_simp; try with_reducible rfl)
  try simp only [Act.put, List.setIfInBounds_toArray, List.set_cons_zero, List.set_cons_succ]
  refine take_on (i := 1) (some 205) (v := ?vr84) rfl rfl (by kernel_rfl) (by kernel_rfl) (by kernel_rfl) (fun _ _ _ h => h) (by rfl) ?hyr84 (by with_reducible exact hHeld) ?restr84
  case hyr84 => (intro wS hSw; (try dsimp only at hSw); go_simp; try with_reducible rfl)
  try simp only [Act.put, List.setIfInBounds_toArray, List.set_cons_zero, List.set_cons_succ]
  refine take_on (i := 2) (some 206) (v := ?vr85) rfl rfl (by kernel_rfl) (by kernel_rfl) (by kernel_rfl) (fun _ _ _ h => h) (by rfl) ?hyr85 (by with_reducible exact hHeld) ?restr85
  case hyr85 => (intro wS hSw; (try dsimp only at hSw); go_simp; try with_reducible rfl)
  try simp only [Act.put, List.setIfInBounds_toArray, List.set_cons_zero, List.set_cons_succ]
  refine take_on (i := 3) (some 207) (v := ?vr86) rfl rfl (by kernel_rfl) (by kernel_rfl) (by kernel_rfl) (fun _ _ _ h => h) (by rfl) ?hyr86 (by with_reducible exact hHeld) ?restr86
  case hyr86 => (intro wS hSw; (try dsimp only at hSw); go_simp; try with_reducible rfl)
  try simp only [Act.put, List.setIfInBounds_toArray, List.set_cons_zero, List.set_cons_succ]
  refine take_on (i := 4) (some 208) (v := ?vr87) rfl rfl (by kernel_rfl) (by kernel_rfl) (by kernel_rfl) (fun _ _ _ h => h) (by rfl) ?hyr87 (by with_reducible exact hHeld) ?restr87
  case hyr87 => (intro wS hSw; (try dsimp only at hSw); go_simp; try with_reducible rfl)
  try simp only [Act.put, List.setIfInBounds_toArray, List.set_cons_zero, List.set_cons_succ]
  refine take_on (i := 5) (some 209) (v := ?vr88) rfl rfl (by kernel_rfl) (by kernel_rfl) (by kernel_rfl) (fun _ _ _ h => h) (by rfl) ?hyr88 (by with_reducible exact hHeld) ?restr88
  case hyr88 => (intro wS hSw; (try dsimp only at hSw); go_simp; try with_reducible rfl)
  try simp only [Act.put, List.setIfInBounds_toArray, List.set_cons_zero, List.set_cons_succ]
  refine wpAnyH_ready (rs := [6]) (by kernel_rfl) (by simp) ?_
  refine AllReadyH.cons rfl (fun K hK => ?_) AllReadyH.nil
  go_simp
  with_reducible refine GA.out.mono ?_
  rintro e w3 ⟨Ag3, gc3, rfl, hK, hfr, V3, hT, hC, hF⟩
  obtain ⟨hs, hc⟩ := S2.out.stepT hT hC hF
  have S3 := Lib.hid hs
  have C3 := Lib.hid hc
  have OB3 := Lib.hid (S2.out.blkT hC OB2.out (by decide) (by decide) (by decide))
  have K3 := Lib.hid hK
  have F3 := Lib.hid hfr
  clear GA hT hC hF hs hc hK hfr
  refine hK.out _ _ (⟨S3.out.px.cell 0, OB3.out.cell 2⟩) (fun hHeld => ?_)
  clear hK K
  try simp only [Act.put, List.setIfInBounds_toArray, List.set_cons_zero, List.set_cons_succ]
  refine take_on (i := 7) (some 203) (v := ?vr89) rfl rfl (by kernel_rfl) (by kernel_rfl) (by kernel_rfl) (fun _ _ _ h => h) (by rfl) ?hyr89 (by with_reducible exact hHeld) ?restr89
  case hyr89 => (intro wS hSw; (try dsimp only at hSw); go_simp; try with_reducible rfl)
  try simp only [Act.put, List.setIfInBounds_toArray, List.set_cons_zero, List.set_cons_succ]
  refine take_on (i := 8) (some 211) (v := ?vr90) rfl rfl (by kernel_rfl) (by kernel_rfl) (by kernel_rfl) (fun _ _ _ h => h) (by rfl) ?hyr90 (by with_reducible exact hHeld) ?restr90
  case hyr90 => (intro wS hSw; (try dsimp only at hSw); go_simp; try with_reducible rfl)
  try simp only [Act.put, List.setIfInBounds_toArray, List.set_cons_zero, List.set_cons_succ]
  refine take_on (i := 9) (some 212) (v := ?vr91) rfl rfl (by kernel_rfl) (by kernel_rfl) (by kernel_rfl) (fun _ _ _ h => h) (by rfl) ?hyr91 (by with_reducible exact hHeld) ?restr91
  case hyr91 => (intro wS hSw; (try dsimp only at hSw); go_simp; try with_reducible rfl)
  try simp only [Act.put, List.setIfInBounds_toArray, List.set_cons_zero, List.set_cons_succ]
  refine take_on (i := 10) (some 24) (v := ?vr92) rfl rfl (by kernel_rfl) (by kernel_rfl) (by kernel_rfl) (fun _ _ _ h => h) (by rfl) ?hyr92 (by with_reducible exact hHeld) ?restr92
  case hyr92 => (intro wS hSw; (try dsimp only at hSw); go_simp; try with_reducible rfl)
  try simp only [Act.put, List.setIfInBounds_toArray, List.set_cons_zero, List.set_cons_succ]
  refine take_on (i := 11) (some 25) (v := ?vr93) rfl rfl (by kernel_rfl) (by kernel_rfl) (by kernel_rfl) (fun _ _ _ h => h) (by rfl) ?hyr93 (by with_reducible exact hHeld) ?restr93
  case hyr93 => (intro wS hSw; (try dsimp only at hSw); go_simp; try with_reducible rfl)
  try simp only [Act.put, List.setIfInBounds_toArray, List.set_cons_zero, List.set_cons_succ]
  refine wpAnyH_done (by kernel_rfl) ?_ _
  refine NoPanic.normal ?_
  go_upto_region 28 with fail
  have S4 := Lib.hid (S3.out.below (Below.refl w3.heap.size w3).drew)
  have OB4 := Lib.hid (show Blk w3.drew O 33 _ from OB3.out)
  have K4 := Lib.hid (K3.out.below (Below.refl w3.heap.size w3).drew)
  have gr := rwaiters_any base R n i c most A P turns L ex w3.drew S4.out.ref (by omega)
  rw [← HPA.out] at gr
  rw [HGN.out] at gr
  have GR := Lib.hid gr
  clear gr
  refine wp_region_noPanic ?_
  refine wp_region_held_drew (S := fun w' => w'.cell? ⟨X, 1, none⟩ = some (.pointer (some ⟨R, 0, none⟩)) ∧ w'.cell? ⟨O, 2, none⟩ = some (.int .i64 ex)) (by kernel_rfl) (⟨S4.out.px.cell 1, OB4.out.cell 2⟩) (fun hHeld => ?_)
  refine take_on (i := 0) (some 214) (v := ?vr94) rfl rfl (by kernel_rfl) (by kernel_rfl) (by kernel_rfl) (fun _ _ _ h => h) (by rfl) ?hyr94 (by with_reducible exact hHeld) ?restr94
  case hyr94 => (intro wS hSw; (try dsimp only at hSw); go_simp; try with_reducible rfl)
  try simp only [Act.put, List.setIfInBounds_toArray, List.set_cons_zero, List.set_cons_succ]
  refine take_on (i := 1) (some 215) (v := ?vr95) rfl rfl (by kernel_rfl) (by kernel_rfl) (by kernel_rfl) (fun _ _ _ h => h) (by rfl) ?hyr95 (by with_reducible exact hHeld) ?restr95
  case hyr95 => (intro wS hSw; (try dsimp only at hSw); go_simp; try with_reducible rfl)
  try simp only [Act.put, List.setIfInBounds_toArray, List.set_cons_zero, List.set_cons_succ]
  refine take_on (i := 2) (some 216) (v := ?vr96) rfl rfl (by kernel_rfl) (by kernel_rfl) (by kernel_rfl) (fun _ _ _ h => h) (by rfl) ?hyr96 (by with_reducible exact hHeld) ?restr96
  case hyr96 => (intro wS hSw; (try dsimp only at hSw); go_simp; try with_reducible rfl)
  try simp only [Act.put, List.setIfInBounds_toArray, List.set_cons_zero, List.set_cons_succ]
  refine take_on (i := 3) (some 217) (v := ?vr97) rfl rfl (by kernel_rfl) (by kernel_rfl) (by kernel_rfl) (fun _ _ _ h => h) (by rfl) ?hyr97 (by with_reducible exact hHeld) ?restr97
  case hyr97 => (intro wS hSw; (try dsimp only at hSw); go_simp; try with_reducible rfl)
  try simp only [Act.put, List.setIfInBounds_toArray, List.set_cons_zero, List.set_cons_succ]
  refine take_on (i := 4) (some 218) (v := ?vr98) rfl rfl (by kernel_rfl) (by kernel_rfl) (by kernel_rfl) (fun _ _ _ h => h) (by rfl) ?hyr98 (by with_reducible exact hHeld) ?restr98
  case hyr98 => (intro wS hSw; (try dsimp only at hSw); go_simp; try with_reducible rfl)
  try simp only [Act.put, List.setIfInBounds_toArray, List.set_cons_zero, List.set_cons_succ]
  refine take_on (i := 5) (some 219) (v := ?vr99) rfl rfl (by kernel_rfl) (by kernel_rfl) (by kernel_rfl) (fun _ _ _ h => h) (by rfl) ?hyr99 (by with_reducible exact hHeld) ?restr99
  case hyr99 => (intro wS hSw; (try dsimp only at hSw); go_simp; try with_reducible rfl)
  try simp only [Act.put, List.setIfInBounds_toArray, List.set_cons_zero, List.set_cons_succ]
  refine wpAnyH_ready (rs := [6]) (by kernel_rfl) (by simp) ?_
  refine AllReadyH.cons rfl (fun K hK => ?_) AllReadyH.nil
  go_simp
  with_reducible refine GR.out.mono ?_
  rintro e w5 ⟨Ag5, gc5, rfl, hrd, hB⟩
  have S5 := Lib.hid (S4.out.below hB)
  have C5 := Lib.hid (S4.out.chgB hB)
  have OB5 := Lib.hid (OB4.out.below hB OB4.out.lt)
  have K5 := Lib.hid (K4.out.below hB)
  have RD5 := Lib.hid hrd
  clear GR hB hrd
  refine hK.out _ _ (⟨S5.out.px.cell 1, OB5.out.cell 2⟩) (fun hHeld => ?_)
  clear hK K
  try simp only [Act.put, List.setIfInBounds_toArray, List.set_cons_zero, List.set_cons_succ]
  refine take_on (i := 7) (some 213) (v := ?vr100) rfl rfl (by kernel_rfl) (by kernel_rfl) (by kernel_rfl) (fun _ _ _ h => h) (by rfl) ?hyr100 (by with_reducible exact hHeld) ?restr100
  case hyr100 => (intro wS hSw; (try dsimp only at hSw); go_simp; try with_reducible rfl)
  try simp only [Act.put, List.setIfInBounds_toArray, List.set_cons_zero, List.set_cons_succ]
  refine take_on (i := 8) (some 221) (v := ?vr101) rfl rfl (by kernel_rfl) (by kernel_rfl) (by kernel_rfl) (fun _ _ _ h => h) (by rfl) ?hyr101 (by with_reducible exact hHeld) ?restr101
  case hyr101 => (intro wS hSw; (try dsimp only at hSw); go_simp; try with_reducible rfl)
  try simp only [Act.put, List.setIfInBounds_toArray, List.set_cons_zero, List.set_cons_succ]
  refine take_on (i := 9) (some 222) (v := ?vr102) rfl rfl (by kernel_rfl) (by kernel_rfl) (by kernel_rfl) (fun _ _ _ h => h) (by rfl) ?hyr102 (by with_reducible exact hHeld) ?restr102
  case hyr102 => (intro wS hSw; (try dsimp only at hSw); go_simp; try with_reducible rfl)
  try simp only [Act.put, List.setIfInBounds_toArray, List.set_cons_zero, List.set_cons_succ]
  refine take_on (i := 10) (some 26) (v := ?vr103) rfl rfl (by kernel_rfl) (by kernel_rfl) (by kernel_rfl) (fun _ _ _ h => h) (by rfl) ?hyr103 (by with_reducible exact hHeld) ?restr103
  case hyr103 => (intro wS hSw; (try dsimp only at hSw); go_simp; try with_reducible rfl)
  try simp only [Act.put, List.setIfInBounds_toArray, List.set_cons_zero, List.set_cons_succ]
  refine take_on (i := 11) (some 27) (v := ?vr104) rfl rfl (by kernel_rfl) (by kernel_rfl) (by kernel_rfl) (fun _ _ _ h => h) (by rfl) ?hyr104 (by with_reducible exact hHeld) ?restr104
  case hyr104 => (intro wS hSw; (try dsimp only at hSw); go_simp; try with_reducible rfl)
  try simp only [Act.put, List.setIfInBounds_toArray, List.set_cons_zero, List.set_cons_succ]
  refine wpAnyH_done (by kernel_rfl) ?_ _
  refine NoPanic.normal ?_
  have gs := Lib.hid (same_yes Ag3 Ag5 gc3 gc5 gn pa.1 w5 HGN.out (by omega) K5.out.kept.1 RD5.out)
  have e1 : (pa.2.2 == pa.2.2) = true := by simp
  go_wp2_with fail
  refine gs.out.mono ?_
  rintro e w6 ⟨rfl, hB6⟩
  have S6 := Lib.hid (S5.out.below hB6)
  have C6 := Lib.hid (S5.out.chgB hB6)
  have K6 := Lib.hid (K5.out.below hB6)
  have x2 : w6.cell? ⟨X, 2, none⟩ = some (.pointer (some ⟨B, 0, none⟩)) := S6.out.px.cell 2
  have gk := Lib.hid (keepI_any S6.out.bk (by omega) K6.out HGN.out hgb (fun k hk => by
      obtain ⟨a, e, rfl⟩ := hk
      exact ⟨Nat.le_trans hbw1 (F3.out a e), F3.out a e⟩) (by have := C3.out.size; have := C5.out.size; have := hB6.size; simp only [World.drew] at *; omega))
  clear gs hB6
  go_wp2_with fail
  refine gk.out.mono ?_
  rintro e w7 ⟨rfl, hb7, hc7⟩
  obtain ⟨hs, hc⟩ := S6.out.stepB hb7 hc7
  have S7 := Lib.hid hs
  have C7 := Lib.hid hc
  clear gk hb7 hc7 hs hc x2
  go_wp2
  go_ret
  have cc := df_trans (df_trans (df_trans (df_trans C1.out (df_trans ((Chg.refl (DF base D) w1).drew) C3.out)) (df_trans ((Chg.refl (DF base D) w3).drew) C5.out)) C6.out) C7.out
  exact ⟨rfl, ⟨V3, wait, L, A, c, P, turns, S7.out.mono (Nat.le_succ i) (Nat.le_refl _) (Nat.le_refl _), HI.out.mono (Nat.le_succ i), HG.out, hM⟩, cc⟩
set_option maxRecDepth 20000 in
set_option maxHeartbeats 16000000 in
theorem step_drop (base X T E R B n i : Nat) (most : Int) (late : Bool) (q : Nat) (D : Nat → Prop) (ex mode owner : Int) (sec : Bool) (w : World) (hst : StI base w X T E R B n i most late q D) (hn : n ≤ 4096) (hm : most ≤ 512) (hi : i ≤ 300000000000) (hq : q ≤ 300000000000) (hbw : base ≤ w.heap.size) :
    Calls Try.prog 27 #[.pointer (some ⟨X, 0, none⟩), .agg (opC 3 sec ex mode owner)] w (StepPost base w X T E R B n i most late q D) := by
  obtain ⟨V, wait, L, A, c, P, turns, hS, hI, hG, hM⟩ := hst
  have hw0 := hI.waits
  have hwb : 0 ≤ wait ∧ wait ≤ 1000000 := by omega
  have ln4 := hI.lens4 (show i ≤ 4000000000000 by omega)
  have row6 := hI.row6 hwb.2
  obtain ⟨O, hO⟩ : ∃ O, O = w.heap.size := ⟨_, rfl⟩
  obtain ⟨w1, hw1⟩ : ∃ w1, w1 = w.alloc (.cells (opC 3 sec ex mode owner) 33) := ⟨_, rfl⟩
  have hB1 : Below w.heap.size w w1 := by rw [hw1]; exact (Below.refl _ _).alloc (Nat.le_refl _) _
  have S1 := Lib.hid ((hS.below hB1).mono (Nat.le_refl i) (Nat.le_refl q) hB1.size)
  have C1 := Lib.hid (hS.chgB hB1)
  have OB1 := Lib.hid (show Blk w1 O 33 (opC 3 sec ex mode owner) by rw [hw1, hO]; exact Blk.new w _ _)
  have HI := Lib.hid hI
  have HG := Lib.hid hG
  have LN := Lib.hid ln4
  have RW := Lib.hid row6
  have k0 : w1.cell? ⟨O, 0, none⟩ = some (.int .i64 3) := OB1.out.cell 0
  have hbw1 : base ≤ w1.heap.size := Nat.le_trans hbw hB1.size
  clear hS hI hG ln4 row6 hB1 hw0
  go_enter Try.func27, Try.ntmps27
  go_upto_region 13 with fail
  rw [← hw1, ← hO]
  clear hw1 hO
  have S2 := Lib.hid (S1.out.below (Below.refl w1.heap.size w1).drew)
  have OB2 := Lib.hid (show Blk w1.drew O 33 _ from OB1.out)
  obtain ⟨pa, hpa⟩ : ∃ pa, pa = dropN n owner n L wait := ⟨_, rfl⟩
  have ga := dropO_any base T E n i most owner V wait L w1.drew S2.out.tab hn HI.out (by omega) hwb.2
  have IA := (drop_inv (o := owner) HI.out n).1.mono (Nat.le_succ i)
  have hwr := (drop_inv (o := owner) HI.out n).2
  have hwi := (drop_inv (o := owner) HI.out n).1.waits.1
  have GDA := drop_good (wait := wait) (owner := owner) HG.out n
  have MA := drop_most (owner := owner) HI.out hM n
  rw [← hpa] at ga IA GDA MA hwr hwi
  obtain ⟨gn, hgn⟩ : ∃ gn, gn = pa.2.2.length := ⟨_, rfl⟩
  rw [← hgn] at ga hwr
  have hgb : gn ≤ 4000000000000 := by omega
  have GA := Lib.hid ga
  have IA := Lib.hid IA
  have GDA := Lib.hid GDA
  have HPA := Lib.hid hpa
  have HGN := Lib.hid hgn.symm
  clear ga hpa hwr hgn hwi
  refine wp_region_noPanic ?_
  refine wp_region_held_drew (S := fun w' => w'.cell? ⟨X, 0, none⟩ = some (.pointer (some ⟨T, 0, none⟩)) ∧ w'.cell? ⟨O, 4, none⟩ = some (.int .i64 owner)) (by kernel_rfl) (⟨S2.out.px.cell 0, OB2.out.cell 4⟩) (fun hHeld => ?_)
  refine take_on (i := 0) (some 112) (v := ?vr105) rfl rfl (by kernel_rfl) (by kernel_rfl) (by kernel_rfl) (fun _ _ _ h => h) (by rfl) ?hyr105 (by with_reducible exact hHeld) ?restr105
  case hyr105 => (intro wS hSw; (try dsimp only at hSw); go_simp; try with_reducible rfl)
  try simp only [Act.put, List.setIfInBounds_toArray, List.set_cons_zero, List.set_cons_succ]
  refine take_on (i := 1) (some 113) (v := ?vr106) rfl rfl (by kernel_rfl) (by kernel_rfl) (by kernel_rfl) (fun _ _ _ h => h) (by rfl) ?hyr106 (by with_reducible exact hHeld) ?restr106
  case hyr106 => (intro wS hSw; (try dsimp only at hSw); go_simp; try with_reducible rfl)
  try simp only [Act.put, List.setIfInBounds_toArray, List.set_cons_zero, List.set_cons_succ]
  refine take_on (i := 2) (some 114) (v := ?vr107) rfl rfl (by kernel_rfl) (by kernel_rfl) (by kernel_rfl) (fun _ _ _ h => h) (by rfl) ?hyr107 (by with_reducible exact hHeld) ?restr107
  case hyr107 => (intro wS hSw; (try dsimp only at hSw); go_simp; try with_reducible rfl)
  try simp only [Act.put, List.setIfInBounds_toArray, List.set_cons_zero, List.set_cons_succ]
  refine take_on (i := 3) (some 115) (v := ?vr108) rfl rfl (by kernel_rfl) (by kernel_rfl) (by kernel_rfl) (fun _ _ _ h => h) (by rfl) ?hyr108 (by with_reducible exact hHeld) ?restr108
  case hyr108 => (intro wS hSw; (try dsimp only at hSw); go_simp; try with_reducible rfl)
  try simp only [Act.put, List.setIfInBounds_toArray, List.set_cons_zero, List.set_cons_succ]
  refine take_on (i := 4) (some 116) (v := ?vr109) rfl rfl (by kernel_rfl) (by kernel_rfl) (by kernel_rfl) (fun _ _ _ h => h) (by rfl) ?hyr109 (by with_reducible exact hHeld) ?restr109
  case hyr109 => (intro wS hSw; (try dsimp only at hSw); go_simp; try with_reducible rfl)
  try simp only [Act.put, List.setIfInBounds_toArray, List.set_cons_zero, List.set_cons_succ]
  refine take_on (i := 5) (some 117) (v := ?vr110) rfl rfl (by kernel_rfl) (by kernel_rfl) (by kernel_rfl) (fun _ _ _ h => h) (by rfl) ?hyr110 (by with_reducible exact hHeld) ?restr110
  case hyr110 => (intro wS hSw; (try dsimp only at hSw); go_simp; try with_reducible rfl)
  try simp only [Act.put, List.setIfInBounds_toArray, List.set_cons_zero, List.set_cons_succ]
  refine wpAnyH_ready (rs := [6]) (by kernel_rfl) (by simp) ?_
  refine AllReadyH.cons rfl (fun K hK => ?_) AllReadyH.nil
  go_simp
  with_reducible refine GA.out.mono ?_
  rintro e w3 ⟨Ag3, gc3, rfl, hK, hfr, V3, hT, hC, hF⟩
  obtain ⟨hs, hc⟩ := S2.out.stepT hT hC hF
  have S3 := Lib.hid hs
  have C3 := Lib.hid hc
  have OB3 := Lib.hid (S2.out.blkT hC OB2.out (by decide) (by decide) (by decide))
  have K3 := Lib.hid hK
  have F3 := Lib.hid hfr
  clear GA hT hC hF hs hc hK hfr
  refine hK.out _ _ (⟨S3.out.px.cell 0, OB3.out.cell 4⟩) (fun hHeld => ?_)
  clear hK K
  try simp only [Act.put, List.setIfInBounds_toArray, List.set_cons_zero, List.set_cons_succ]
  refine take_on (i := 7) (some 14) (v := ?vr111) rfl rfl (by kernel_rfl) (by kernel_rfl) (by kernel_rfl) (fun _ _ _ h => h) (by rfl) ?hyr111 (by with_reducible exact hHeld) ?restr111
  case hyr111 => (intro wS hSw; (try dsimp only at hSw); go_simp; try with_reducible rfl)
  try simp only [Act.put, List.setIfInBounds_toArray, List.set_cons_zero, List.set_cons_succ]
  refine wpAnyH_done (by kernel_rfl) ?_ _
  refine NoPanic.normal ?_
  go_upto_region 14 with fail
  have S4 := Lib.hid (S3.out.below (Below.refl w3.heap.size w3).drew)
  have OB4 := Lib.hid (show Blk w3.drew O 33 _ from OB3.out)
  have K4 := Lib.hid (K3.out.below (Below.refl w3.heap.size w3).drew)
  have gr := rdrop_any base R n i c most A P turns wait L owner w3.drew S4.out.ref HG.out HI.out hwb.2 hn (by omega)
  rw [← HPA.out] at gr
  rw [HGN.out] at gr
  have GR := Lib.hid gr
  clear gr
  refine wp_region_noPanic ?_
  refine wp_region_held_drew (S := fun w' => w'.cell? ⟨X, 1, none⟩ = some (.pointer (some ⟨R, 0, none⟩)) ∧ w'.cell? ⟨O, 4, none⟩ = some (.int .i64 owner)) (by kernel_rfl) (⟨S4.out.px.cell 1, OB4.out.cell 4⟩) (fun hHeld => ?_)
  refine take_on (i := 0) (some 119) (v := ?vr112) rfl rfl (by kernel_rfl) (by kernel_rfl) (by kernel_rfl) (fun _ _ _ h => h) (by rfl) ?hyr112 (by with_reducible exact hHeld) ?restr112
  case hyr112 => (intro wS hSw; (try dsimp only at hSw); go_simp; try with_reducible rfl)
  try simp only [Act.put, List.setIfInBounds_toArray, List.set_cons_zero, List.set_cons_succ]
  refine take_on (i := 1) (some 120) (v := ?vr113) rfl rfl (by kernel_rfl) (by kernel_rfl) (by kernel_rfl) (fun _ _ _ h => h) (by rfl) ?hyr113 (by with_reducible exact hHeld) ?restr113
  case hyr113 => (intro wS hSw; (try dsimp only at hSw); go_simp; try with_reducible rfl)
  try simp only [Act.put, List.setIfInBounds_toArray, List.set_cons_zero, List.set_cons_succ]
  refine take_on (i := 2) (some 121) (v := ?vr114) rfl rfl (by kernel_rfl) (by kernel_rfl) (by kernel_rfl) (fun _ _ _ h => h) (by rfl) ?hyr114 (by with_reducible exact hHeld) ?restr114
  case hyr114 => (intro wS hSw; (try dsimp only at hSw); go_simp; try with_reducible rfl)
  try simp only [Act.put, List.setIfInBounds_toArray, List.set_cons_zero, List.set_cons_succ]
  refine take_on (i := 3) (some 122) (v := ?vr115) rfl rfl (by kernel_rfl) (by kernel_rfl) (by kernel_rfl) (fun _ _ _ h => h) (by rfl) ?hyr115 (by with_reducible exact hHeld) ?restr115
  case hyr115 => (intro wS hSw; (try dsimp only at hSw); go_simp; try with_reducible rfl)
  try simp only [Act.put, List.setIfInBounds_toArray, List.set_cons_zero, List.set_cons_succ]
  refine take_on (i := 4) (some 123) (v := ?vr116) rfl rfl (by kernel_rfl) (by kernel_rfl) (by kernel_rfl) (fun _ _ _ h => h) (by rfl) ?hyr116 (by with_reducible exact hHeld) ?restr116
  case hyr116 => (intro wS hSw; (try dsimp only at hSw); go_simp; try with_reducible rfl)
  try simp only [Act.put, List.setIfInBounds_toArray, List.set_cons_zero, List.set_cons_succ]
  refine take_on (i := 5) (some 124) (v := ?vr117) rfl rfl (by kernel_rfl) (by kernel_rfl) (by kernel_rfl) (fun _ _ _ h => h) (by rfl) ?hyr117 (by with_reducible exact hHeld) ?restr117
  case hyr117 => (intro wS hSw; (try dsimp only at hSw); go_simp; try with_reducible rfl)
  try simp only [Act.put, List.setIfInBounds_toArray, List.set_cons_zero, List.set_cons_succ]
  refine wpAnyH_ready (rs := [6]) (by kernel_rfl) (by simp) ?_
  refine AllReadyH.cons rfl (fun K hK => ?_) AllReadyH.nil
  go_simp
  with_reducible refine GR.out.mono ?_
  rintro e w5 ⟨Ag5, gc5, rfl, hrd, A5, c5, P5, t5, hR, hC, hF⟩
  obtain ⟨hs, hc⟩ := S4.out.stepR hR hC hF
  have S5 := Lib.hid hs
  have C5 := Lib.hid hc
  have OB5 := Lib.hid (S4.out.blkR hC OB4.out (by decide) (by decide))
  have K5 := Lib.hid (K4.out.keepR S4.out hC)
  have RD5 := Lib.hid hrd
  clear GR hR hC hF hs hc hrd
  refine hK.out _ _ (⟨S5.out.px.cell 1, OB5.out.cell 4⟩) (fun hHeld => ?_)
  clear hK K
  try simp only [Act.put, List.setIfInBounds_toArray, List.set_cons_zero, List.set_cons_succ]
  refine take_on (i := 7) (some 15) (v := ?vr118) rfl rfl (by kernel_rfl) (by kernel_rfl) (by kernel_rfl) (fun _ _ _ h => h) (by rfl) ?hyr118 (by with_reducible exact hHeld) ?restr118
  case hyr118 => (intro wS hSw; (try dsimp only at hSw); go_simp; try with_reducible rfl)
  try simp only [Act.put, List.setIfInBounds_toArray, List.set_cons_zero, List.set_cons_succ]
  refine wpAnyH_done (by kernel_rfl) ?_ _
  refine NoPanic.normal ?_
  have gs := Lib.hid (same_yes Ag3 Ag5 gc3 gc5 gn pa.2.2 w5 HGN.out (by omega) K5.out.kept.1 RD5.out)
  go_wp2_with fail
  refine gs.out.mono ?_
  rintro e w6 ⟨rfl, hB6⟩
  have S6 := Lib.hid (S5.out.below hB6)
  have C6 := Lib.hid (S5.out.chgB hB6)
  have K6 := Lib.hid (K5.out.below hB6)
  have x2 : w6.cell? ⟨X, 2, none⟩ = some (.pointer (some ⟨B, 0, none⟩)) := S6.out.px.cell 2
  have gk := Lib.hid (keepI_any S6.out.bk (by omega) K6.out HGN.out hgb (fun k hk => by
      obtain ⟨a, e, rfl⟩ := hk
      exact ⟨Nat.le_trans hbw1 (F3.out a e), F3.out a e⟩) (by have := C3.out.size; have := C5.out.size; have := hB6.size; simp only [World.drew] at *; omega))
  clear gs hB6
  go_wp2_with fail
  refine gk.out.mono ?_
  rintro e w7 ⟨rfl, hb7, hc7⟩
  obtain ⟨hs, hc⟩ := S6.out.stepB hb7 hc7
  have S7 := Lib.hid hs
  have C7 := Lib.hid hc
  clear gk hb7 hc7 hs hc x2
  go_wp2
  go_ret
  have cc := df_trans (df_trans (df_trans (df_trans C1.out (df_trans ((Chg.refl (DF base D) w1).drew) C3.out)) (df_trans ((Chg.refl (DF base D) w3).drew) C5.out)) C6.out) C7.out
  exact ⟨rfl, ⟨V3, pa.2.1, pa.1, A5, c5, P5, t5, S7.out.mono (Nat.le_succ i) (Nat.le_refl _) (Nat.le_refl _), IA.out, GDA.out, MA⟩, cc⟩
set_option maxRecDepth 20000 in
set_option maxHeartbeats 16000000 in
theorem step_holds (base X T E R B n i : Nat) (most : Int) (late : Bool) (q : Nat) (D : Nat → Prop) (ex mode owner : Int) (sec : Bool) (w : World) (hst : StI base w X T E R B n i most late q D) (hn : n ≤ 4096) (hm : most ≤ 512) (hi : i ≤ 300000000000) (hq : q ≤ 300000000000) (hbw : base ≤ w.heap.size) :
    Calls Try.prog 27 #[.pointer (some ⟨X, 0, none⟩), .agg (opC 4 sec ex mode owner)] w (StepPost base w X T E R B n i most late q D) := by
  obtain ⟨V, wait, L, A, c, P, turns, hS, hI, hG, hM⟩ := hst
  have hw0 := hI.waits
  have hwb : 0 ≤ wait ∧ wait ≤ 1000000 := by omega
  have ln4 := hI.lens4 (show i ≤ 4000000000000 by omega)
  have row6 := hI.row6 hwb.2
  obtain ⟨O, hO⟩ : ∃ O, O = w.heap.size := ⟨_, rfl⟩
  obtain ⟨w1, hw1⟩ : ∃ w1, w1 = w.alloc (.cells (opC 4 sec ex mode owner) 33) := ⟨_, rfl⟩
  have hB1 : Below w.heap.size w w1 := by rw [hw1]; exact (Below.refl _ _).alloc (Nat.le_refl _) _
  have S1 := Lib.hid ((hS.below hB1).mono (Nat.le_refl i) (Nat.le_refl q) hB1.size)
  have C1 := Lib.hid (hS.chgB hB1)
  have OB1 := Lib.hid (show Blk w1 O 33 (opC 4 sec ex mode owner) by rw [hw1, hO]; exact Blk.new w _ _)
  have HI := Lib.hid hI
  have HG := Lib.hid hG
  have LN := Lib.hid ln4
  have RW := Lib.hid row6
  have k0 : w1.cell? ⟨O, 0, none⟩ = some (.int .i64 4) := OB1.out.cell 0
  have hbw1 : base ≤ w1.heap.size := Nat.le_trans hbw hB1.size
  clear hS hI hG ln4 row6 hB1 hw0
  go_enter Try.func27, Try.ntmps27
  go_upto_region 19 with fail
  rw [← hw1, ← hO]
  clear hw1 hO
  have S2 := Lib.hid (S1.out.below (Below.refl w1.heap.size w1).drew)
  have OB2 := Lib.hid (show Blk w1.drew O 33 _ from OB1.out)
  obtain ⟨hv, hhv⟩ : ∃ hv, hv = holdsT n L ex owner := ⟨_, rfl⟩
  have ga := holdsM_any base T E n most ex owner V wait L w1.drew S2.out.tab hn LN.out
  rw [← hhv] at ga
  have GA := Lib.hid ga
  have HV := Lib.hid hhv
  clear ga hhv
  refine wp_region_noPanic ?_
  refine wp_region_held_drew (S := fun w' => w'.cell? ⟨X, 0, none⟩ = some (.pointer (some ⟨T, 0, none⟩)) ∧ w'.cell? ⟨X, 1, none⟩ = some (.pointer (some ⟨R, 0, none⟩)) ∧ w'.cell? ⟨O, 2, none⟩ = some (.int .i64 ex) ∧ w'.cell? ⟨O, 4, none⟩ = some (.int .i64 owner)) (by kernel_rfl) (⟨S2.out.px.cell 0, S2.out.px.cell 1, OB2.out.cell 2, OB2.out.cell 4⟩) (fun hHeld => ?_)
  refine take_on (i := 0) (some 138) (v := ?vr119) rfl rfl (by kernel_rfl) (by kernel_rfl) (by kernel_rfl) (fun _ _ _ h => h) (by rfl) ?hyr119 (by with_reducible exact hHeld) ?restr119
  case hyr119 => (intro wS hSw; (try dsimp only at hSw); go_simp; try with_reducible rfl)
  try simp only [Act.put, List.setIfInBounds_toArray, List.set_cons_zero, List.set_cons_succ]
  refine take_on (i := 1) (some 139) (v := ?vr120) rfl rfl (by kernel_rfl) (by kernel_rfl) (by kernel_rfl) (fun _ _ _ h => h) (by rfl) ?hyr120 (by with_reducible exact hHeld) ?restr120
  case hyr120 => (intro wS hSw; (try dsimp only at hSw); go_simp; try with_reducible rfl)
  try simp only [Act.put, List.setIfInBounds_toArray, List.set_cons_zero, List.set_cons_succ]
  refine take_on (i := 2) (some 140) (v := ?vr121) rfl rfl (by kernel_rfl) (by kernel_rfl) (by kernel_rfl) (fun _ _ _ h => h) (by rfl) ?hyr121 (by with_reducible exact hHeld) ?restr121
  case hyr121 => (intro wS hSw; (try dsimp only at hSw); go_simp; try with_reducible rfl)
  try simp only [Act.put, List.setIfInBounds_toArray, List.set_cons_zero, List.set_cons_succ]
  refine take_on (i := 3) (some 141) (v := ?vr122) rfl rfl (by kernel_rfl) (by kernel_rfl) (by kernel_rfl) (fun _ _ _ h => h) (by rfl) ?hyr122 (by with_reducible exact hHeld) ?restr122
  case hyr122 => (intro wS hSw; (try dsimp only at hSw); go_simp; try with_reducible rfl)
  try simp only [Act.put, List.setIfInBounds_toArray, List.set_cons_zero, List.set_cons_succ]
  refine take_on (i := 4) (some 142) (v := ?vr123) rfl rfl (by kernel_rfl) (by kernel_rfl) (by kernel_rfl) (fun _ _ _ h => h) (by rfl) ?hyr123 (by with_reducible exact hHeld) ?restr123
  case hyr123 => (intro wS hSw; (try dsimp only at hSw); go_simp; try with_reducible rfl)
  try simp only [Act.put, List.setIfInBounds_toArray, List.set_cons_zero, List.set_cons_succ]
  refine take_on (i := 5) (some 143) (v := ?vr124) rfl rfl (by kernel_rfl) (by kernel_rfl) (by kernel_rfl) (fun _ _ _ h => h) (by rfl) ?hyr124 (by with_reducible exact hHeld) ?restr124
  case hyr124 => (intro wS hSw; (try dsimp only at hSw); go_simp; try with_reducible rfl)
  try simp only [Act.put, List.setIfInBounds_toArray, List.set_cons_zero, List.set_cons_succ]
  refine take_on (i := 6) (some 144) (v := ?vr125) rfl rfl (by kernel_rfl) (by kernel_rfl) (by kernel_rfl) (fun _ _ _ h => h) (by rfl) ?hyr125 (by with_reducible exact hHeld) ?restr125
  case hyr125 => (intro wS hSw; (try dsimp only at hSw); go_simp; try with_reducible rfl)
  try simp only [Act.put, List.setIfInBounds_toArray, List.set_cons_zero, List.set_cons_succ]
  refine take_on (i := 7) (some 145) (v := ?vr126) rfl rfl (by kernel_rfl) (by kernel_rfl) (by kernel_rfl) (fun _ _ _ h => h) (by rfl) ?hyr126 (by with_reducible exact hHeld) ?restr126
  case hyr126 => (intro wS hSw; (try dsimp only at hSw); go_simp; try with_reducible rfl)
  try simp only [Act.put, List.setIfInBounds_toArray, List.set_cons_zero, List.set_cons_succ]
  refine take_on (i := 9) (some 147) (v := ?vr127) rfl rfl (by kernel_rfl) (by kernel_rfl) (by kernel_rfl) (fun _ _ _ h => h) (by rfl) ?hyr127 (by with_reducible exact hHeld) ?restr127
  case hyr127 => (intro wS hSw; (try dsimp only at hSw); go_simp; try with_reducible rfl)
  try simp only [Act.put, List.setIfInBounds_toArray, List.set_cons_zero, List.set_cons_succ]
  refine take_on (i := 10) (some 148) (v := ?vr128) rfl rfl (by kernel_rfl) (by kernel_rfl) (by kernel_rfl) (fun _ _ _ h => h) (by rfl) ?hyr128 (by with_reducible exact hHeld) ?restr128
  case hyr128 => (intro wS hSw; (try dsimp only at hSw); go_simp; try with_reducible rfl)
  try simp only [Act.put, List.setIfInBounds_toArray, List.set_cons_zero, List.set_cons_succ]
  refine take_on (i := 11) (some 149) (v := ?vr129) rfl rfl (by kernel_rfl) (by kernel_rfl) (by kernel_rfl) (fun _ _ _ h => h) (by rfl) ?hyr129 (by with_reducible exact hHeld) ?restr129
  case hyr129 => (intro wS hSw; (try dsimp only at hSw); go_simp; try with_reducible rfl)
  try simp only [Act.put, List.setIfInBounds_toArray, List.set_cons_zero, List.set_cons_succ]
  refine take_on (i := 12) (some 150) (v := ?vr130) rfl rfl (by kernel_rfl) (by kernel_rfl) (by kernel_rfl) (fun _ _ _ h => h) (by rfl) ?hyr130 (by with_reducible exact hHeld) ?restr130
  case hyr130 => (intro wS hSw; (try dsimp only at hSw); go_simp; try with_reducible rfl)
  try simp only [Act.put, List.setIfInBounds_toArray, List.set_cons_zero, List.set_cons_succ]
  refine take_on (i := 13) (some 151) (v := ?vr131) rfl rfl (by kernel_rfl) (by kernel_rfl) (by kernel_rfl) (fun _ _ _ h => h) (by rfl) ?hyr131 (by with_reducible exact hHeld) ?restr131
  case hyr131 => (intro wS hSw; (try dsimp only at hSw); go_simp; try with_reducible rfl)
  try simp only [Act.put, List.setIfInBounds_toArray, List.set_cons_zero, List.set_cons_succ]
  refine take_on (i := 14) (some 152) (v := ?vr132) rfl rfl (by kernel_rfl) (by kernel_rfl) (by kernel_rfl) (fun _ _ _ h => h) (by rfl) ?hyr132 (by with_reducible exact hHeld) ?restr132
  case hyr132 => (intro wS hSw; (try dsimp only at hSw); go_simp; try with_reducible rfl)
  try simp only [Act.put, List.setIfInBounds_toArray, List.set_cons_zero, List.set_cons_succ]
  refine take_on (i := 15) (some 153) (v := ?vr133) rfl rfl (by kernel_rfl) (by kernel_rfl) (by kernel_rfl) (fun _ _ _ h => h) (by rfl) ?hyr133 (by with_reducible exact hHeld) ?restr133
  case hyr133 => (intro wS hSw; (try dsimp only at hSw); go_simp; try with_reducible rfl)
  try simp only [Act.put, List.setIfInBounds_toArray, List.set_cons_zero, List.set_cons_succ]
  refine take_on (i := 16) (some 154) (v := ?vr134) rfl rfl (by kernel_rfl) (by kernel_rfl) (by kernel_rfl) (fun _ _ _ h => h) (by rfl) ?hyr134 (by with_reducible exact hHeld) ?restr134
  case hyr134 => (intro wS hSw; (try dsimp only at hSw); go_simp; try with_reducible rfl)
  try simp only [Act.put, List.setIfInBounds_toArray, List.set_cons_zero, List.set_cons_succ]
  refine wpAnyH_ready (rs := [8]) (by kernel_rfl) (by simp) ?_
  refine AllReadyH.cons rfl (fun K hK => ?_) AllReadyH.nil
  go_simp
  with_reducible refine GA.out.mono ?_
  rintro e w3 ⟨rfl, V3, hT, hC, hF⟩
  obtain ⟨hs, hc⟩ := S2.out.stepT hT hC hF
  have S3 := Lib.hid hs
  have C3 := Lib.hid hc
  have OB3 := Lib.hid (S2.out.blkT hC OB2.out (by decide) (by decide) (by decide))
  have gr := rholds_any base R n i c most A P turns L ex owner w3 S3.out.ref HG.out (by omega)
  rw [← HV.out] at gr
  have GR := Lib.hid gr
  clear GA hT hC hF hs hc gr
  refine hK.out _ _ (⟨S3.out.px.cell 0, S3.out.px.cell 1, OB3.out.cell 2, OB3.out.cell 4⟩) (fun hHeld => ?_)
  clear hK K
  try simp only [Act.put, List.setIfInBounds_toArray, List.set_cons_zero, List.set_cons_succ]
  refine wpAnyH_ready (rs := [17]) (by kernel_rfl) (by simp) ?_
  refine AllReadyH.cons rfl (fun K hK => ?_) AllReadyH.nil
  go_simp
  with_reducible refine GR.out.mono ?_
  rintro e w' ⟨rfl, rfl⟩
  clear GR
  refine hK.out _ _ (⟨S3.out.px.cell 0, S3.out.px.cell 1, OB3.out.cell 2, OB3.out.cell 4⟩) (fun hHeld => ?_)
  clear hK K
  try simp only [Act.put, List.setIfInBounds_toArray, List.set_cons_zero, List.set_cons_succ]
  have e1 : (hv == hv) = true := by simp
  refine take_on (i := 18) (some 156) (v := ?vr135) rfl rfl (by kernel_rfl) (by kernel_rfl) (by kernel_rfl) (fun _ _ _ h => h) (by rfl) ?hyr135 (by with_reducible exact hHeld) ?restr135
  case hyr135 => (intro wS hSw; (try dsimp only at hSw); go_simp; try with_reducible rfl)
  try simp only [Act.put, List.setIfInBounds_toArray, List.set_cons_zero, List.set_cons_succ]
  refine take_on (i := 19) (some 4) (v := ?vr136) rfl rfl (by kernel_rfl) (by kernel_rfl) (by kernel_rfl) (fun _ _ _ h => h) (by rfl) ?hyr136 (by with_reducible exact hHeld) ?restr136
  case hyr136 => (intro wS hSw; (try dsimp only at hSw); go_simp; try with_reducible rfl)
  try simp only [Act.put, List.setIfInBounds_toArray, List.set_cons_zero, List.set_cons_succ]
  refine wpAnyH_done (by kernel_rfl) ?_ _
  refine NoPanic.normal ?_
  go_wp2
  go_ret
  have cc := df_trans C1.out (df_trans ((Chg.refl (DF base D) w1).drew) C3.out)
  exact ⟨rfl, ⟨V3, wait, L, A, c, P, turns, S3.out.mono (Nat.le_succ i) (Nat.le_succ q) C3.out.size, HI.out.mono (Nat.le_succ i), HG.out, hM⟩, cc⟩
set_option maxRecDepth 20000 in
set_option maxHeartbeats 16000000 in
theorem step_waiting (base X T E R B n i : Nat) (most : Int) (late : Bool) (q : Nat) (D : Nat → Prop) (ex mode owner : Int) (sec : Bool) (w : World) (hst : StI base w X T E R B n i most late q D) (hn : n ≤ 4096) (hm : most ≤ 512) (hi : i ≤ 300000000000) (hq : q ≤ 300000000000) (hbw : base ≤ w.heap.size) :
    Calls Try.prog 27 #[.pointer (some ⟨X, 0, none⟩), .agg (opC 7 sec ex mode owner)] w (StepPost base w X T E R B n i most late q D) := by
  obtain ⟨V, wait, L, A, c, P, turns, hS, hI, hG, hM⟩ := hst
  have hw0 := hI.waits
  have hwb : 0 ≤ wait ∧ wait ≤ 1000000 := by omega
  have ln4 := hI.lens4 (show i ≤ 4000000000000 by omega)
  have row6 := hI.row6 hwb.2
  obtain ⟨O, hO⟩ : ∃ O, O = w.heap.size := ⟨_, rfl⟩
  obtain ⟨w1, hw1⟩ : ∃ w1, w1 = w.alloc (.cells (opC 7 sec ex mode owner) 33) := ⟨_, rfl⟩
  have hB1 : Below w.heap.size w w1 := by rw [hw1]; exact (Below.refl _ _).alloc (Nat.le_refl _) _
  have S1 := Lib.hid ((hS.below hB1).mono (Nat.le_refl i) (Nat.le_refl q) hB1.size)
  have C1 := Lib.hid (hS.chgB hB1)
  have OB1 := Lib.hid (show Blk w1 O 33 (opC 7 sec ex mode owner) by rw [hw1, hO]; exact Blk.new w _ _)
  have HI := Lib.hid hI
  have HG := Lib.hid hG
  have LN := Lib.hid ln4
  have RW := Lib.hid row6
  have k0 : w1.cell? ⟨O, 0, none⟩ = some (.int .i64 7) := OB1.out.cell 0
  have hbw1 : base ≤ w1.heap.size := Nat.le_trans hbw hB1.size
  clear hS hI hG ln4 row6 hB1 hw0
  go_enter Try.func27, Try.ntmps27
  go_upto_region 33 with fail
  rw [← hw1, ← hO]
  clear hw1 hO
  have S2 := Lib.hid (S1.out.below (Below.refl w1.heap.size w1).drew)
  have OB2 := Lib.hid (show Blk w1.drew O 33 _ from OB1.out)
  have GA := Lib.hid (waitingM_any base T E n most wait V L w1.drew S2.out.tab)
  refine wp_region_noPanic ?_
  refine wp_region_held_drew (S := fun w' => w'.cell? ⟨X, 0, none⟩ = some (.pointer (some ⟨T, 0, none⟩)) ∧ w'.cell? ⟨X, 1, none⟩ = some (.pointer (some ⟨R, 0, none⟩))) (by kernel_rfl) (⟨S2.out.px.cell 0, S2.out.px.cell 1⟩) (fun hHeld => ?_)
  refine take_on (i := 0) (some 240) (v := ?vr137) rfl rfl (by kernel_rfl) (by kernel_rfl) (by kernel_rfl) (fun _ _ _ h => h) (by rfl) ?hyr137 (by with_reducible exact hHeld) ?restr137
  case hyr137 => (intro wS hSw; (try dsimp only at hSw); go_simp; try with_reducible rfl)
  try simp only [Act.put, List.setIfInBounds_toArray, List.set_cons_zero, List.set_cons_succ]
  refine take_on (i := 1) (some 241) (v := ?vr138) rfl rfl (by kernel_rfl) (by kernel_rfl) (by kernel_rfl) (fun _ _ _ h => h) (by rfl) ?hyr138 (by with_reducible exact hHeld) ?restr138
  case hyr138 => (intro wS hSw; (try dsimp only at hSw); go_simp; try with_reducible rfl)
  try simp only [Act.put, List.setIfInBounds_toArray, List.set_cons_zero, List.set_cons_succ]
  refine take_on (i := 2) (some 242) (v := ?vr139) rfl rfl (by kernel_rfl) (by kernel_rfl) (by kernel_rfl) (fun _ _ _ h => h) (by rfl) ?hyr139 (by with_reducible exact hHeld) ?restr139
  case hyr139 => (intro wS hSw; (try dsimp only at hSw); go_simp; try with_reducible rfl)
  try simp only [Act.put, List.setIfInBounds_toArray, List.set_cons_zero, List.set_cons_succ]
  refine take_on (i := 3) (some 243) (v := ?vr140) rfl rfl (by kernel_rfl) (by kernel_rfl) (by kernel_rfl) (fun _ _ _ h => h) (by rfl) ?hyr140 (by with_reducible exact hHeld) ?restr140
  case hyr140 => (intro wS hSw; (try dsimp only at hSw); go_simp; try with_reducible rfl)
  try simp only [Act.put, List.setIfInBounds_toArray, List.set_cons_zero, List.set_cons_succ]
  refine take_on (i := 5) (some 245) (v := ?vr141) rfl rfl (by kernel_rfl) (by kernel_rfl) (by kernel_rfl) (fun _ _ _ h => h) (by rfl) ?hyr141 (by with_reducible exact hHeld) ?restr141
  case hyr141 => (intro wS hSw; (try dsimp only at hSw); go_simp; try with_reducible rfl)
  try simp only [Act.put, List.setIfInBounds_toArray, List.set_cons_zero, List.set_cons_succ]
  refine take_on (i := 6) (some 246) (v := ?vr142) rfl rfl (by kernel_rfl) (by kernel_rfl) (by kernel_rfl) (fun _ _ _ h => h) (by rfl) ?hyr142 (by with_reducible exact hHeld) ?restr142
  case hyr142 => (intro wS hSw; (try dsimp only at hSw); go_simp; try with_reducible rfl)
  try simp only [Act.put, List.setIfInBounds_toArray, List.set_cons_zero, List.set_cons_succ]
  refine take_on (i := 7) (some 247) (v := ?vr143) rfl rfl (by kernel_rfl) (by kernel_rfl) (by kernel_rfl) (fun _ _ _ h => h) (by rfl) ?hyr143 (by with_reducible exact hHeld) ?restr143
  case hyr143 => (intro wS hSw; (try dsimp only at hSw); go_simp; try with_reducible rfl)
  try simp only [Act.put, List.setIfInBounds_toArray, List.set_cons_zero, List.set_cons_succ]
  refine take_on (i := 8) (some 248) (v := ?vr144) rfl rfl (by kernel_rfl) (by kernel_rfl) (by kernel_rfl) (fun _ _ _ h => h) (by rfl) ?hyr144 (by with_reducible exact hHeld) ?restr144
  case hyr144 => (intro wS hSw; (try dsimp only at hSw); go_simp; try with_reducible rfl)
  try simp only [Act.put, List.setIfInBounds_toArray, List.set_cons_zero, List.set_cons_succ]
  refine wpAnyH_ready (rs := [4]) (by kernel_rfl) (by simp) ?_
  refine AllReadyH.cons rfl (fun K hK => ?_) AllReadyH.nil
  go_simp
  with_reducible refine GA.out.mono ?_
  rintro e w3 ⟨rfl, hT, hC⟩
  have hF : ∀ k, Fp T E n V k → Fp T E n V k ∨ w1.drew.heap.size ≤ k := fun _ h => .inl h
  obtain ⟨hs, hc⟩ := S2.out.stepT hT hC hF
  have S3 := Lib.hid hs
  have C3 := Lib.hid hc
  have gr := rwaiting_any R P.length c A P w3 rfl (by have := S3.out.ref.len; omega) (S3.out.ref.s.blk.cell 2) S3.out.ref.s.gsl.rds
  rw [S3.out.ref.sim.waits, ← HI.out.sum] at gr
  have GR := Lib.hid gr
  clear GA hT hC hF hs hc gr
  refine hK.out _ _ (⟨S3.out.px.cell 0, S3.out.px.cell 1⟩) (fun hHeld => ?_)
  clear hK K
  try simp only [Act.put, List.setIfInBounds_toArray, List.set_cons_zero, List.set_cons_succ]
  refine wpAnyH_ready (rs := [9]) (by kernel_rfl) (by simp) ?_
  refine AllReadyH.cons rfl (fun K hK => ?_) AllReadyH.nil
  go_simp
  with_reducible refine GR.out.mono ?_
  rintro e w' ⟨rfl, rfl⟩
  clear GR
  refine hK.out _ _ (⟨S3.out.px.cell 0, S3.out.px.cell 1⟩) (fun hHeld => ?_)
  clear hK K
  try simp only [Act.put, List.setIfInBounds_toArray, List.set_cons_zero, List.set_cons_succ]
  have e1 : (wait == wait) = true := by simp
  refine take_on (i := 10) (some 250) (v := ?vr145) rfl rfl (by kernel_rfl) (by kernel_rfl) (by kernel_rfl) (fun _ _ _ h => h) (by rfl) ?hyr145 (by with_reducible exact hHeld) ?restr145
  case hyr145 => (intro wS hSw; (try dsimp only at hSw); go_simp; try with_reducible rfl)
  try simp only [Act.put, List.setIfInBounds_toArray, List.set_cons_zero, List.set_cons_succ]
  refine take_on (i := 11) (some 4) (v := ?vr146) rfl rfl (by kernel_rfl) (by kernel_rfl) (by kernel_rfl) (fun _ _ _ h => h) (by rfl) ?hyr146 (by with_reducible exact hHeld) ?restr146
  case hyr146 => (intro wS hSw; (try dsimp only at hSw); go_simp; try with_reducible rfl)
  try simp only [Act.put, List.setIfInBounds_toArray, List.set_cons_zero, List.set_cons_succ]
  refine wpAnyH_done (by kernel_rfl) ?_ _
  refine NoPanic.normal ?_
  go_wp2
  go_ret
  have cc := df_trans C1.out (df_trans ((Chg.refl (DF base D) w1).drew) C3.out)
  exact ⟨rfl, ⟨V, wait, L, A, c, P, turns, S3.out.mono (Nat.le_succ i) (Nat.le_succ q) C3.out.size, HI.out.mono (Nat.le_succ i), HG.out, hM⟩, cc⟩
set_option maxRecDepth 20000 in
set_option maxHeartbeats 16000000 in
theorem step_none (base X T E R B n i : Nat) (most : Int) (late : Bool) (q : Nat) (D : Nat → Prop) (kind ex mode owner : Int) (sec : Bool) (w : World) (hst : StI base w X T E R B n i most late q D) (hn : n ≤ 4096) (hm : most ≤ 512) (hi : i ≤ 300000000000) (hq : q ≤ 300000000000) (hbw : base ≤ w.heap.size) (h1 : (kind == 1) = false) (h2 : (kind == 2) = false) (h3 : (kind == 3) = false) (h4 : (kind == 4) = false) (h5 : (kind == 5) = false) (h6 : (kind == 6) = false) (h7 : (kind == 7) = false) :
    Calls Try.prog 27 #[.pointer (some ⟨X, 0, none⟩), .agg (opC kind sec ex mode owner)] w (StepPost base w X T E R B n i most late q D) := by
  obtain ⟨V, wait, L, A, c, P, turns, hS, hI, hG, hM⟩ := hst
  have hw0 := hI.waits
  have hwb : 0 ≤ wait ∧ wait ≤ 1000000 := by omega
  have ln4 := hI.lens4 (show i ≤ 4000000000000 by omega)
  have row6 := hI.row6 hwb.2
  obtain ⟨O, hO⟩ : ∃ O, O = w.heap.size := ⟨_, rfl⟩
  obtain ⟨w1, hw1⟩ : ∃ w1, w1 = w.alloc (.cells (opC kind sec ex mode owner) 33) := ⟨_, rfl⟩
  have hB1 : Below w.heap.size w w1 := by rw [hw1]; exact (Below.refl _ _).alloc (Nat.le_refl _) _
  have S1 := Lib.hid ((hS.below hB1).mono (Nat.le_refl i) (Nat.le_refl q) hB1.size)
  have C1 := Lib.hid (hS.chgB hB1)
  have OB1 := Lib.hid (show Blk w1 O 33 (opC kind sec ex mode owner) by rw [hw1, hO]; exact Blk.new w _ _)
  have HI := Lib.hid hI
  have HG := Lib.hid hG
  have LN := Lib.hid ln4
  have RW := Lib.hid row6
  have k0 : w1.cell? ⟨O, 0, none⟩ = some (.int .i64 kind) := OB1.out.cell 0
  have hbw1 : base ≤ w1.heap.size := Nat.le_trans hbw hB1.size
  clear hS hI hG ln4 row6 hB1 hw0
  go_enter Try.func27, Try.ntmps27
  go_upto_region 1 with fail
  rw [← hw1, ← hO]
  clear hw1 hO
  go_wp2
  go_ret
  exact ⟨rfl, ⟨V, wait, L, A, c, P, turns, S1.out.mono (Nat.le_succ i) (Nat.le_succ q) (Nat.le_refl _), HI.out.mono (Nat.le_succ i), HG.out, hM⟩, C1.out⟩
theorem step_any (base X T E R B n i : Nat) (most : Int) (late : Bool) (q : Nat) (D : Nat → Prop) (kind ex mode owner : Int) (sec : Bool) (w : World) (hst : StI base w X T E R B n i most late q D) (hn : n ≤ 4096) (hm : most ≤ 512) (hi : i ≤ 300000000000) (hq : q ≤ 300000000000) (hbw : base ≤ w.heap.size) :
    Calls Try.prog 27 #[.pointer (some ⟨X, 0, none⟩), .agg (opC kind sec ex mode owner)] w (StepPost base w X T E R B n i most late q D) := by
  by_cases k1 : kind = 1
  · subst k1; exact step_acq base X T E R B n i most late q D ex mode owner sec w hst hn hm hi hq hbw
  by_cases k2 : kind = 2
  · subst k2; exact step_rel base X T E R B n i most late q D ex mode owner sec w hst hn hm hi hq hbw
  by_cases k3 : kind = 3
  · subst k3; exact step_drop base X T E R B n i most late q D ex mode owner sec w hst hn hm hi hq hbw
  by_cases k4 : kind = 4
  · subst k4; exact step_holds base X T E R B n i most late q D ex mode owner sec w hst hn hm hi hq hbw
  by_cases k5 : kind = 5
  · subst k5; exact step_holders base X T E R B n i most late q D ex mode owner sec w hst hn hm hi hq hbw
  by_cases k6 : kind = 6
  · subst k6; exact step_waiters base X T E R B n i most late q D ex mode owner sec w hst hn hm hi hq hbw
  by_cases k7 : kind = 7
  · subst k7; exact step_waiting base X T E R B n i most late q D ex mode owner sec w hst hn hm hi hq hbw
  exact step_none base X T E R B n i most late q D kind ex mode owner sec w hst hn hm hi hq hbw (by rw [beq_eq_false_iff_ne]; exact k1) (by rw [beq_eq_false_iff_ne]; exact k2) (by rw [beq_eq_false_iff_ne]; exact k3) (by rw [beq_eq_false_iff_ne]; exact k4) (by rw [beq_eq_false_iff_ne]; exact k5) (by rw [beq_eq_false_iff_ne]; exact k6) (by rw [beq_eq_false_iff_ne]; exact k7)
end Go.Proofs.Ytkjbjfjgnponfaa
