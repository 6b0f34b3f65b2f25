/- DigestSum: the digest of any bytes is the document's. -/
import Derived.Test.YtepikbmlhejobaaDoorRefSha
import Derived.Test.YtepikbmlhejobaaDoorShaPub
namespace Go.Proofs.YtepikbmlhejobaaDoor
open Go.RowKit
/-- what 'given' hands in, with its room -/
def GivenC (F : Option Addr) (n cf : Nat) (w : World) (e : Ending) (w' : World) : Prop := ∃ A' c', e = .returned (.slice A' n c') ∧ (A' = F ∨ A' = none ∧ n = 0) ∧ n ≤ c' ∧ c' ≤ cf ∧ w = w'
theorem given_c (F A : Option Addr) (nf cf n c : Nat) (w : World) (hn : n ≤ cf) (hA : A = none → n = 0 ∧ c = 0) :
    Calls Tryd.prog 17 #[.slice F nf cf, .slice A n c] w (GivenC F n cf w) := by
  have hc' : (n : Int) ≤ (cf : Int) := by omega
  have hnil := fun (wx : World) (a : Option Addr) (n' c' : Nat) => Lib.run_eql_slice_nil (P := Tryd.prog) wx 27 5 a n' c' 0 0 Tryd.underlying27
  cases A with
  | none =>
    obtain ⟨rfl, rfl⟩ := hA rfl
    go_enter Tryd.func17, Tryd.ntmps17
    go_wp2
    go_ret
    exact ⟨none, 0, rfl, .inr ⟨rfl, rfl⟩, Nat.le_refl _, Nat.zero_le _, rfl⟩
  | some a =>
    go_enter Tryd.func17, Tryd.ntmps17
    go_wp2
    go_ret
    exact ⟨_, _, rfl, .inl (by cases F <;> simp), by omega, by omega, rfl⟩
set_option maxRecDepth 20000 in
set_option maxHeartbeats 4000000 in
theorem digestSum_any (A : Option Addr) (cap n : Nat) (l : List UInt8) (w : World) (hln : l.length = n) (hn : n ≤ 140737488351232) (h : Rd encB w A l) (hA : A = none → n = 0 ∧ cap = 0)
    (hT : Rd enc32 w (some ⟨3, 0, none⟩) ksL) (hS : Rd enc32 w (some ⟨0, 0, none⟩) startS.list) (hTB : Rd enc32 w (some ⟨1, 0, none⟩) startS.list) (hTQ : Rd enc32 w (some ⟨2, 0, none⟩) ksL) :
    Calls Tryd.prog 4 #[.slice A n cap] w fun e w' => e = .returned (.bool true) ∧ Below w.heap.size w w' := by
  have z1 := zeroA32
  have HP := Lib.hid h
  have HN := Lib.hid hln
  have HT := Lib.hid hT
  have HS := Lib.hid hS
  have HTB := Lib.hid hTB
  have HTQ := Lib.hid hTQ
  obtain ⟨D, hD⟩ : ∃ D, D = digestL ksL startS l := ⟨_, rfl⟩
  have HD := Lib.hid hD
  have HND := Lib.hid (show D.length = 32 by rw [hD]; exact digestL_len _ _ _)
  have g0 := roomy_any A cap l w (by omega) h
  rw [hln] at g0
  have G0 := Lib.hid g0
  clear hT hS hTB hTQ h hD g0 hln
  go_enter Tryd.func4, Tryd.ntmps4
  go_wp2_with fail
  with_reducible refine G0.out.mono ?_
  rintro e w1 ⟨v, rfl, hown, hB⟩
  obtain ⟨g, cf, rfl, hg, hgl, hcf, hcm⟩ := hown.pos (n := n + 150) (by rw [List.length_append, HN.out, marks_length]) (by omega)
  have hf : Rd encB w1 (some ⟨g, 0, none⟩) l := by
    have := hown.rd.take l.length
    rwa [List.take_left] at this
  unfold maxLen at hcm
  have HO := Lib.hid hown
  have B1 := Lib.hid hB
  have HF := Lib.hid hf
  have g1 := Lib.hid (given_c (some ⟨g, 0, none⟩) A (n + 150) cf n cap w1 (by omega) hA)
  clear G0 hown hB hf
  go_wp2_with fail
  with_reducible refine g1.out.mono ?_
  rintro e w' ⟨A1, c1, rfl, hA1, hc1, hc1m, rfl⟩
  have h1 : Rd encB w1 A1 l := by
    rcases hA1 with rfl | ⟨rfl, h0⟩
    · exact HF.out
    · rw [List.eq_nil_of_length_eq_zero (l := l) (by rw [HN.out]; exact h0)]; exact Rd.nil_
  have g2 := Lib.hid (sum256_n ksL ksL_len startS A1 c1 n l w1 HN.out hc1 (by omega) (by omega) h1 (HT.out.below B1.out) (HS.out.below B1.out))
  rw [← HD.out] at g2
  clear g1 hA1 h1 HF
  go_wp2_with fail
  with_reducible refine g2.out.mono ?_
  rintro e w2 ⟨rfl, hB2⟩
  have C2 := B1.out.trans (hB2.mono B1.out.size)
  have O2 := Lib.hid (HO.out.below hB2)
  obtain ⟨R1, hR1⟩ : ∃ R, R = w2.heap.size := ⟨_, rfl⟩
  have HR1 := Lib.hid hR1
  have lR1 : w.heap.size ≤ R1 := by rw [hR1]; exact C2.size
  have gR1 : g < R1 := by rw [hR1]; have := hB2.size; have := hgl; omega
  have q0 : Blk (w2.alloc (.cells (arr encB zero32) 36)) R1 36 (arr encB zero32) := by rw [HR1.out]; exact Blk.new w2 _ _
  have HB2 := Lib.hid (C2.alloc C2.size (.cells (arr encB zero32) 36))
  clear g2 hB2 hR1 C2 HO
  go_wp2_with (first
    | rw [← HR1.out]
    | ((with_reducible refine wpList_store_blk rfl 36 (.tmp 4) (.tmp 11) rfl R1 36 (arr encB zero32) (arr encB D) ?hb rfl rfl (arrSz HND.out) ?hl (arr_one encB_one _) ?_); (case hb => exact q0); (case hl => rw [arr_size, arr_size, zero32_len, HND.out]); intro w3 b3 hg3 hs3; clear hs3))
  have B3 := Lib.hid (below_only HB2.out hg3 HB2.out.size lR1)
  have O3 := Lib.hid ((O2.out.alloc (.cells (arr encB zero32) 36)).grown hg3 (.inr (by intro e; have e2 : some g = some R1 := e; injection e2; omega)))
  clear HB2 O2 hg3 q0
  -- REGIONS: printed by gen_DigSum.py
  have hl150 : (l ++ marks 150).length = n + 150 := by rw [List.length_append, HN.out, marks_length]
  have HL150 := Lib.hid hl150
  have hRd : ∀ v, Blk v R1 36 (arr encB D) → v.rangeAt R1 0 (D.map encB) := fun v hb j x hx => by rw [Nat.zero_add, hb.cell]; simpa [arr] using hx
  have HRD := Lib.hid hRd
  have hI : (Tryd.prog.info? 36).map (·.size) = some (D.map encB).length := by rw [List.length_map, HND.out]; kernel_rfl
  have HI := Lib.hid hI
  have B3d := Lib.hid B3.out.drew
  have O3d := Lib.hid (O3.out.drewN 1)
  have b3d := b3.drew
  have g4 := Lib.hid (refSum_any A cap n l w3.drew HN.out (by omega) (HP.out.below B3d.out) (HTB.out.below B3d.out) (HTQ.out.below B3d.out))
  rw [← HD.out] at g4
  clear hl150 hRd hI b3
  go_wp2_with fail
  refine wp_region_noPanic ?_
  refine wp_region_held_drew (S := fun w' => w'.rangeAt R1 0 (D.map encB)) (by kernel_rfl) (HRD.out _ b3d) (fun hHeld => ?_)
  refine take_on (i := 0) (some 12) (v := .agg (D.map encB).toArray) rfl rfl (by kernel_rfl) (by kernel_rfl) (by kernel_rfl) (fun _ _ _ h => h) (by rfl) ?hyr1 (by with_reducible exact hHeld) ?restr1
  case hyr1 => exact fun wS hSw => exec_load_mid _ _ rfl _ _ rfl _ _ (hSw) arrTy rfl (HI.out)
  try simp only [Act.put, List.setIfInBounds_toArray, List.set_cons_zero, List.set_cons_succ]
  refine take_on (i := 1) (some 13) (v := ?vr2) rfl rfl (by kernel_rfl) (by kernel_rfl) (by kernel_rfl) (fun _ _ _ h => h) (by rfl) ?hyr2 (by with_reducible exact hHeld) ?restr2
  case hyr2 => (intro wS hSw; (try dsimp only at hSw); go_simp; try with_reducible rfl)
  try simp only [Act.put, List.setIfInBounds_toArray, List.set_cons_zero, List.set_cons_succ]
  refine wpAnyH_ready (rs := [2]) (by kernel_rfl) (by simp) ?_
  refine AllReadyH.cons rfl (fun K hK => ?_) AllReadyH.nil
  go_simp
  with_reducible refine g4.out.mono ?_
  rintro e w4 ⟨rfl, hB4⟩
  have b4 := b3d.below hB4 b3d.lt
  have B4 := Lib.hid (B3d.out.trans (hB4.mono B3d.out.size))
  have O4 := Lib.hid (O3d.out.below hB4)
  have g5 := Lib.hid (equal_any D D w4 HND.out HND.out)
  rw [show decide (D = D) = true from decide_eq_true rfl] at g5
  clear g4 hB4 b3d
  refine hK.out _ _ (HRD.out _ b4) (fun hHeld => ?_)
  clear hK K
  try simp only [Act.put, List.setIfInBounds_toArray, List.set_cons_zero, List.set_cons_succ]
  refine wpAnyH_ready (rs := [3]) (by kernel_rfl) (by simp) ?_
  refine AllReadyH.cons rfl (fun K hK => ?_) AllReadyH.nil
  go_simp
  refine g5.out.mono ?_
  rintro e w5 ⟨rfl, hB5⟩
  have b5 := b4.below hB5 b4.lt
  have B5 := Lib.hid (B4.out.trans (hB5.mono B4.out.size))
  have O5 := Lib.hid (O4.out.below hB5)
  have r5 := HP.out.below B5.out
  have g6 := untouched_any (some ⟨g, 0, none⟩) A cf cap l w5 (by rw [HN.out]; exact hn) (by rw [HN.out]; exact hcf) (by unfold maxLen; exact hcm) O5.out.rd r5
  rw [HN.out] at g6
  have G6 := Lib.hid g6
  clear g5 hB5 b4 r5 g6
  refine hK.out _ _ (HRD.out _ b5) (fun hHeld => ?_)
  clear hK K
  try simp only [Act.put, List.setIfInBounds_toArray, List.set_cons_zero, List.set_cons_succ]
  refine take_on (i := 4) (some 16) (v := ?vr3) rfl rfl (by kernel_rfl) (by kernel_rfl) (by kernel_rfl) (fun _ _ _ h => h) (by rfl) ?hyr3 (by with_reducible exact hHeld) ?restr3
  case hyr3 => (intro wS hSw; (try dsimp only at hSw); go_simp; try with_reducible rfl)
  try simp only [Act.put, List.setIfInBounds_toArray, List.set_cons_zero, List.set_cons_succ]
  refine take_on (i := 5) (some 17) (v := ?vr4) rfl rfl (by kernel_rfl) (by kernel_rfl) (by kernel_rfl) (fun _ _ _ h => h) (by rfl) ?hyr4 (by with_reducible exact hHeld) ?restr4
  case hyr4 => (intro wS hSw; (try dsimp only at hSw); go_simp; try with_reducible rfl)
  try simp only [Act.put, List.setIfInBounds_toArray, List.set_cons_zero, List.set_cons_succ]
  refine take_on (i := 6) (some 18) (v := ?vr5) rfl rfl (by kernel_rfl) (by kernel_rfl) (by kernel_rfl) (fun _ _ _ h => h) (by rfl) ?hyr5 (by with_reducible exact hHeld) ?restr5
  case hyr5 => (intro wS hSw; (try dsimp only at hSw); go_simp; try with_reducible rfl)
  try simp only [Act.put, List.setIfInBounds_toArray, List.set_cons_zero, List.set_cons_succ]
  refine take_on (i := 7) (some 19) (v := ?vr6) rfl rfl (by kernel_rfl) (by kernel_rfl) (by kernel_rfl) (fun _ _ _ h => h) (by rfl) ?hyr6 (by with_reducible exact hHeld) ?restr6
  case hyr6 => (intro wS hSw; (try dsimp only at hSw); go_simp; try with_reducible rfl)
  try simp only [Act.put, List.setIfInBounds_toArray, List.set_cons_zero, List.set_cons_succ]
  refine wpAnyH_ready (rs := [8]) (by kernel_rfl) (by simp) ?_
  refine AllReadyH.cons rfl (fun K hK => ?_) AllReadyH.nil
  go_simp
  with_reducible refine G6.out.mono ?_
  rintro e w6 ⟨rfl, dn, rfl⟩
  clear G6
  refine hK.out _ _ (HRD.out _ (b5.drewN dn)) (fun hHeld => ?_)
  clear hK K
  try simp only [Act.put, List.setIfInBounds_toArray, List.set_cons_zero, List.set_cons_succ]
  refine take_on (i := 9) (some 21) (v := ?vr7) rfl rfl (by kernel_rfl) (by kernel_rfl) (by kernel_rfl) (fun _ _ _ h => h) (by rfl) ?hyr7 (by with_reducible exact hHeld) ?restr7
  case hyr7 => (intro wS hSw; (try dsimp only at hSw); go_simp; try with_reducible rfl)
  try simp only [Act.put, List.setIfInBounds_toArray, List.set_cons_zero, List.set_cons_succ]
  refine take_on (i := 10) (some 22) (v := ?vr8) rfl rfl (by kernel_rfl) (by kernel_rfl) (by kernel_rfl) (fun _ _ _ h => h) (by rfl) ?hyr8 (by with_reducible exact hHeld) ?restr8
  case hyr8 => (intro wS hSw; (try dsimp only at hSw); go_simp; try with_reducible rfl)
  try simp only [Act.put, List.setIfInBounds_toArray, List.set_cons_zero, List.set_cons_succ]
  refine wpAnyH_done (by kernel_rfl) ?_ _
  refine NoPanic.normal ?_
  have B6 := below_drewN B5.out dn
  have O6 := (O5.out.drewN dn).take_ n (by rw [HL150.out]; omega)
  rw [List.take_left' HN.out] at O6
  have hb1 : (n : Int) ≤ (cf : Int) := by omega
  have HO6 := Lib.hid O6
  have g7 := Lib.hid (spoil_any g n cf w.heap.size 85 l _ HN.out (by unfold maxLen; exact hcm) O6)
  have HB6 := Lib.hid B6
  obtain ⟨W6, hW6⟩ : ∃ W6, W6 = w5.drewN dn := ⟨_, rfl⟩
  rw [← hW6] at g7 HB6 HO6 ⊢
  clear b5 O6 B6 O5 B5 O4 B4 O3d B3d O3 B3 HRD hW6
  go_wp2_with fail
  refine g7.out.mono ?_
  rintro e w7 ⟨rfl, hO7, hg7⟩
  have hl2 : (l.map (· ^^^ ((85 : UInt8) ||| 1))).length = n := by rw [List.length_map]; exact HN.out
  generalize l.map (· ^^^ ((85 : UInt8) ||| 1)) = m at hl2 hO7
  have HM := Lib.hid hl2
  have O7 := Lib.hid hO7
  have B7 := Lib.hid (below_only HB6.out hg7 HB6.out.size hg)
  have hgl7 : g < w7.heap.size := by have h1 := hO7.lt g rfl; exact h1.2
  obtain ⟨D2, hD2⟩ : ∃ D, D = digestL ksL startS m := ⟨_, rfl⟩
  have HD2 := Lib.hid hD2
  have HND2 := Lib.hid (show D2.length = 32 by rw [hD2]; exact digestL_len _ _ _)
  have g8 := Lib.hid (sum256_n ksL ksL_len startS (some ⟨g, 0, none⟩) cf n m w7 HM.out (by omega) (by omega) (by omega) O7.out.rd (HT.out.below B7.out) (HS.out.below B7.out))
  rw [← hD2] at g8
  clear g7 hO7 hg7 hl2 hD2 HO6 HB6
  go_wp2_with fail
  with_reducible refine g8.out.mono ?_
  rintro e w8 ⟨rfl, hB8⟩
  have C8 := B7.out.trans (hB8.mono B7.out.size)
  have O8 := Lib.hid (O7.out.below hB8)
  obtain ⟨R2, hR2⟩ : ∃ R, R = w8.heap.size := ⟨_, rfl⟩
  have HR2 := Lib.hid hR2
  have lR2 : w.heap.size ≤ R2 := by rw [hR2]; exact C8.size
  have gR2 : g < R2 := by rw [hR2]; have := hB8.size; omega
  have q0 : Blk (w8.alloc (.cells (arr encB zero32) 36)) R2 36 (arr encB zero32) := by rw [HR2.out]; exact Blk.new w8 _ _
  have HB8 := Lib.hid (C8.alloc C8.size (.cells (arr encB zero32) 36))
  clear g8 hB8 hR2 C8 O7 B7
  go_wp2_with (first
    | rw [← HR2.out]
    | ((with_reducible refine wpList_store_blk rfl 36 (.tmp 5) (.tmp 32) rfl R2 36 (arr encB zero32) (arr encB D2) ?hb rfl rfl (arrSz HND2.out) ?hl (arr_one encB_one _) ?_); (case hb => exact q0); (case hl => rw [arr_size, arr_size, zero32_len, HND2.out]); intro w9 b9 hg9 hs9; clear hs9))
  have B9 := Lib.hid (below_only HB8.out hg9 HB8.out.size lR2)
  have O9 := Lib.hid ((O8.out.alloc (.cells (arr encB zero32) 36)).grown hg9 (.inr (by intro e; have e2 : some g = some R2 := e; injection e2; omega)))
  have hI2 : (Tryd.prog.info? 36).map (·.size) = some (D2.map encB).length := by rw [List.length_map, HND2.out]; kernel_rfl
  have HI2 := Lib.hid hI2
  have hRd : ∀ v, Blk v R2 36 (arr encB D2) → v.rangeAt R2 0 (D2.map encB) := fun v hb j x hx => by rw [Nat.zero_add, hb.cell]; simpa [arr] using hx
  have HRD := Lib.hid hRd
  have b9d := b9.drew
  have B9d := Lib.hid B9.out.drew
  have O9d := O9.out.drewN 1
  have g9 := Lib.hid (copied_n (some ⟨g, 0, none⟩) cf n m w9.drew HM.out (by omega) O9d.rd)
  clear HB8 O8 hg9 q0 b9 hI2 hRd O9d
  refine wp_region_noPanic ?_
  refine wp_region_held_drew (S := fun w' => w'.rangeAt R2 0 (D2.map encB)) (by kernel_rfl) (HRD.out _ b9d) (fun hHeld => ?_)
  refine take_on (i := 0) (some 33) (v := .agg (D2.map encB).toArray) rfl rfl (by kernel_rfl) (by kernel_rfl) (by kernel_rfl) (fun _ _ _ h => h) (by rfl) ?hyr9 (by with_reducible exact hHeld) ?restr9
  case hyr9 => exact fun wS hSw => exec_load_mid _ _ rfl _ _ rfl _ _ (hSw) arrTy rfl (HI2.out)
  try simp only [Act.put, List.setIfInBounds_toArray, List.set_cons_zero, List.set_cons_succ]
  refine take_on (i := 1) (some 34) (v := ?vr10) rfl rfl (by kernel_rfl) (by kernel_rfl) (by kernel_rfl) (fun _ _ _ h => h) (by rfl) ?hyr10 (by with_reducible exact hHeld) ?restr10
  case hyr10 => (intro wS hSw; (try dsimp only at hSw); go_simp; try with_reducible rfl)
  try simp only [Act.put, List.setIfInBounds_toArray, List.set_cons_zero, List.set_cons_succ]
  refine take_on (i := 2) (some 35) (v := ?vr11) rfl rfl (by kernel_rfl) (by kernel_rfl) (by kernel_rfl) (fun _ _ _ h => h) (by rfl) ?hyr11 (by with_reducible exact hHeld) ?restr11
  case hyr11 => (intro wS hSw; (try dsimp only at hSw); go_simp; try with_reducible rfl)
  try simp only [Act.put, List.setIfInBounds_toArray, List.set_cons_zero, List.set_cons_succ]
  refine take_on (i := 3) (some 36) (v := ?vr12) rfl rfl (by kernel_rfl) (by kernel_rfl) (by kernel_rfl) (fun _ _ _ h => h) (by rfl) ?hyr12 (by with_reducible exact hHeld) ?restr12
  case hyr12 => (intro wS hSw; (try dsimp only at hSw); go_simp; try with_reducible rfl)
  try simp only [Act.put, List.setIfInBounds_toArray, List.set_cons_zero, List.set_cons_succ]
  refine take_on (i := 4) (some 37) (v := ?vr13) rfl rfl (by kernel_rfl) (by kernel_rfl) (by kernel_rfl) (fun _ _ _ h => h) (by rfl) ?hyr13 (by with_reducible exact hHeld) ?restr13
  case hyr13 => (intro wS hSw; (try dsimp only at hSw); go_simp; try with_reducible rfl)
  try simp only [Act.put, List.setIfInBounds_toArray, List.set_cons_zero, List.set_cons_succ]
  refine wpAnyH_ready (rs := [5]) (by kernel_rfl) (by simp) ?_
  refine AllReadyH.cons rfl (fun K hK => ?_) AllReadyH.nil
  go_simp
  with_reducible refine g9.out.mono ?_
  rintro e w10 ⟨v, rfl, ov, hB10⟩
  obtain ⟨A3, c3, hv, hc3, r3, _⟩ := ov.slice
  rw [HM.out] at hv
  subst hv
  have b10 := b9d.below hB10 b9d.lt
  have B10 := Lib.hid (B9d.out.trans (hB10.mono B9d.out.size))
  have g10 := Lib.hid (refSum_any A3 c3 n m w10 HM.out (by omega) r3 (HTB.out.below B10.out) (HTQ.out.below B10.out))
  rw [← HD2.out] at g10
  clear g9 ov hc3 r3 hB10 b9d
  refine hK.out _ _ (HRD.out _ b10) (fun hHeld => ?_)
  clear hK K
  try simp only [Act.put, List.setIfInBounds_toArray, List.set_cons_zero, List.set_cons_succ]
  refine wpAnyH_ready (rs := [6]) (by kernel_rfl) (by simp) ?_
  refine AllReadyH.cons rfl (fun K hK => ?_) AllReadyH.nil
  go_simp
  with_reducible refine g10.out.mono ?_
  rintro e w11 ⟨rfl, hB11⟩
  have b11 := b10.below hB11 b10.lt
  have B11 := Lib.hid (B10.out.trans (hB11.mono B10.out.size))
  have g11 := Lib.hid (equal_any D2 D2 w11 HND2.out HND2.out)
  rw [show decide (D2 = D2) = true from decide_eq_true rfl] at g11
  clear g10 hB11 b10
  refine hK.out _ _ (HRD.out _ b11) (fun hHeld => ?_)
  clear hK K
  try simp only [Act.put, List.setIfInBounds_toArray, List.set_cons_zero, List.set_cons_succ]
  refine wpAnyH_ready (rs := [7]) (by kernel_rfl) (by simp) ?_
  refine AllReadyH.cons rfl (fun K hK => ?_) AllReadyH.nil
  go_simp
  refine g11.out.mono ?_
  rintro e w12 ⟨rfl, hB12⟩
  have b12 := b11.below hB12 b11.lt
  have B12 := Lib.hid (B11.out.trans (hB12.mono B11.out.size))
  clear g11 hB12 b11
  refine hK.out _ _ (HRD.out _ b12) (fun hHeld => ?_)
  clear hK K
  try simp only [Act.put, List.setIfInBounds_toArray, List.set_cons_zero, List.set_cons_succ]
  refine take_on (i := 8) (some 2) (v := ?vr14) rfl rfl (by kernel_rfl) (by kernel_rfl) (by kernel_rfl) (fun _ _ _ h => h) (by rfl) ?hyr14 (by with_reducible exact hHeld) ?restr14
  case hyr14 => (intro wS hSw; (try dsimp only at hSw); go_simp; try with_reducible rfl)
  try simp only [Act.put, List.setIfInBounds_toArray, List.set_cons_zero, List.set_cons_succ]
  refine wpAnyH_done (by kernel_rfl) ?_ _
  refine NoPanic.normal ?_
  go_wp2
  go_ret
  exact ⟨rfl, B12.out⟩
end Go.Proofs.YtepikbmlhejobaaDoor
