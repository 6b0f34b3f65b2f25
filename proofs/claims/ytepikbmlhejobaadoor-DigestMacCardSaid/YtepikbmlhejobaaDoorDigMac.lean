/- DigestMac: the keyed digest of any key and message is the document's. -/
import Derived.Test.YtepikbmlhejobaaDoorRefMac
import Derived.Test.YtepikbmlhejobaaDoorDigSum
namespace Go.Proofs.YtepikbmlhejobaaDoor
open Go.RowKit
set_option linter.unusedSimpArgs false
/-- a whole variable is written, at a step of a region that draws its order -/
theorem step_store_blk {P : Program} {w : World} {ops : Array Oper} {o : Oper} {a : Act} {K : Act → World → Prop} {Q : Exit → Act → World → Prop} {E : Prop} (hw : Region.wanted o (yielded ops a.tmps) = true) (ty : TypeId) (x y : Operand) (ho : o.op = .store ty x y) (g t : Nat) (old cs : Array Value) (hb : Blk w g t old) (hx : a.eval x = .pointer (some ⟨g, 0, none⟩)) (hy : a.eval y = .agg cs)
    (hi : (P.info? ty).map (·.size) = some cs.size) (hold : old.size = cs.size) (h1 : cs.all (·.oneCell') = true)
    (h : ∀ w', Blk w' g t cs → w.grownBy w' (some g) → w'.heap.size = w.heap.size → K (a.put o.dst undef) w') : if Region.wanted o (yielded ops a.tmps) = true then Oper.wp P o a w K Q else E := by
  rw [if_pos hw]
  exact wp_store_row ty x y ho g cs hx hy t old hb hi hold h1 (h _ hb.setRow (setRow_only g cs) (by simp [World.setRow]))
theorem rng_of_blk {v : World} {R t : Nat} {D : List UInt8} (hb : Blk v R t (arr encB D)) : v.rangeAt R 0 (D.map encB) := fun j x hx => by rw [Nat.zero_add, hb.cell]; simpa [arr] using hx
theorem size32 {D : List UInt8} (h : D.length = 32) : (Tryd.prog.info? 36).map (·.size) = some (D.map encB).length := by rw [List.length_map, h]; kernel_rfl
set_option maxRecDepth 20000 in
set_option maxHeartbeats 16000000 in
theorem digestMac_any (A : Option Addr) (cap n : Nat) (l : List UInt8) (A1 : Option Addr) (cap1 m : Nat) (msg : List UInt8) (w : World) (hln : l.length = n) (hn : n ≤ 140737488351232) (hlm : msg.length = m) (hm : m ≤ 140737488351232) (h : Rd encB w A l) (h1 : Rd encB w A1 msg) (hA : A = none → n = 0 ∧ cap = 0) (hA1 : A1 = none → m = 0 ∧ cap1 = 0)
    (hT : Rd enc32 w (some ⟨3, 0, none⟩) ksL) (hS : Rd enc32 w (some ⟨0, 0, none⟩) startS.list) (hTB : Rd enc32 w (some ⟨1, 0, none⟩) startS.list) (hTQ : Rd enc32 w (some ⟨2, 0, none⟩) ksL) :
    Calls Tryd.prog 6 #[.slice A n cap, .slice A1 m cap1] w fun e w' => e = .returned (.bool true) ∧ Below w.heap.size w w' := by
  have z1 := zeroA32
  have HP := Lib.hid h
  have HP1 := Lib.hid h1
  have HN := Lib.hid hln
  have HM := Lib.hid hlm
  have HT := Lib.hid hT
  have HS := Lib.hid hS
  have HTB := Lib.hid hTB
  have HTQ := Lib.hid hTQ
  obtain ⟨D, hD⟩ : ∃ D, D = macL ksL startS l msg := ⟨_, rfl⟩
  have HD := Lib.hid hD
  have HND := Lib.hid (show D.length = 32 by rw [hD]; exact digestL_len _ _ _)
  have g0 := roomy_any A cap l w (by omega) h
  rw [hln] at g0
  have G0 := Lib.hid g0
  clear hT hS hTB hTQ h hD g0 hln h1
  go_enter Tryd.func6, Tryd.ntmps6
  go_wp2_with fail
  with_reducible refine G0.out.mono ?_
  rintro e w1 ⟨v, rfl, hown, hB⟩
  obtain ⟨g, cf, rfl, hg, hgl, hcf, hcm⟩ := hown.pos (n := n + 150) (by rw [List.length_append, HN.out, marks_length]) (by omega)
  unfold maxLen at hcm
  have HO := Lib.hid hown
  have B1 := Lib.hid hB
  have g1 := roomy_any A1 cap1 msg w1 (by rw [HM.out]; exact hm) (HP1.out.below hB)
  rw [HM.out] at g1
  have G1 := Lib.hid g1
  clear G0 hown hB g1 hlm
  go_wp2_with fail
  with_reducible refine G1.out.mono ?_
  rintro e w2 ⟨v, rfl, hown, hB⟩
  obtain ⟨f, df, rfl, hf, hfl, hdf, hdm⟩ := hown.pos (n := m + 150) (by rw [List.length_append, HM.out, marks_length]) (by omega)
  unfold maxLen at hdm
  have hgf : g < f := by omega
  have hwf : w.heap.size ≤ f := by omega
  have HO1 := Lib.hid (HO.out.below hB)
  have HO2 := Lib.hid (hown.lower (base' := w.heap.size) (by omega))
  have B2 := Lib.hid (B1.out.trans (hB.mono (by omega)))
  have HF1 := Lib.hid (show Rd encB w2 (some ⟨g, 0, none⟩) l by
    have := HO1.out.rd.take l.length
    rwa [List.take_left] at this)
  have HF2 := Lib.hid (show Rd encB w2 (some ⟨f, 0, none⟩) msg by
    have := HO2.out.rd.take msg.length
    rwa [List.take_left] at this)
  have g2 := Lib.hid (given_c (some ⟨g, 0, none⟩) A (n + 150) cf n cap w2 (by omega) hA)
  have g3 := Lib.hid (given_c (some ⟨f, 0, none⟩) A1 (m + 150) df m cap1 w2 (by omega) hA1)
  clear G1 hown hB HO
  go_wp2_with fail
  with_reducible refine g2.out.mono ?_
  rintro e w' ⟨A2, c2, rfl, hA2, hc2, hc2m, rfl⟩
  have h2 := Lib.hid (show Rd encB w2 A2 l by
    rcases hA2 with rfl | ⟨rfl, h0⟩
    · exact HF1.out
    · rw [List.eq_nil_of_length_eq_zero (l := l) (by rw [HN.out]; exact h0)]; exact Rd.nil_)
  clear g2 hA2 HF1
  go_wp2_with fail
  with_reducible refine g3.out.mono ?_
  rintro e w' ⟨A3, c3, rfl, hA3, hc3, hc3m, rfl⟩
  have h3 := Lib.hid (show Rd encB w2 A3 msg by
    rcases hA3 with rfl | ⟨rfl, h0⟩
    · exact HF2.out
    · rw [List.eq_nil_of_length_eq_zero (l := msg) (by rw [HM.out]; exact h0)]; exact Rd.nil_)
  have g4 := Lib.hid (mac_n ksL ksL_len startS A2 A3 c2 c3 n m l msg w2 HN.out HM.out hc2 (by omega) (by omega) h2.out hc3 (by omega) (by omega) h3.out (HT.out.below B2.out) (HS.out.below B2.out))
  rw [← HD.out] at g4
  clear g3 hA3 HF2 h2 h3
  go_wp2_with fail
  with_reducible refine g4.out.mono ?_
  rintro e w3 ⟨rfl, hB3⟩
  have C3 := B2.out.trans (hB3.mono B2.out.size)
  have O31 := HO1.out.below hB3
  have O32 := HO2.out.below hB3
  obtain ⟨R1, hR1⟩ : ∃ R, R = w3.heap.size := ⟨_, rfl⟩
  have HR1 := Lib.hid hR1
  have lR1 : w.heap.size ≤ R1 := by rw [hR1]; exact C3.size
  have gR1 : f < R1 := by rw [hR1]; have := hB3.size; omega
  have q0 : Blk (w3.alloc (.cells (arr encB zero32) 36)) R1 36 (arr encB zero32) := by rw [HR1.out]; exact Blk.new w3 _ _
  have HB3 := Lib.hid (C3.alloc C3.size (.cells (arr encB zero32) 36))
  have O31a := Lib.hid (O31.alloc (.cells (arr encB zero32) 36))
  have O32a := Lib.hid (O32.alloc (.cells (arr encB zero32) 36))
  clear g4 hB3 hR1 C3 O31 O32 HO1 HO2
  go_wp2_with (first
    | rw [← HR1.out]
    | ((with_reducible refine wpList_store_blk rfl 36 (.tmp 7) (.tmp 20) rfl R1 36 (arr encB zero32) (arr encB D) ?hb rfl rfl (arrSz HND.out) ?hl (arr_one encB_one _) ?_); (case hb => exact q0); (case hl => rw [arr_size, arr_size, zero32_len, HND.out]); intro w4 b4 hg4 hs4; clear hs4))
  have B4d := Lib.hid (below_only HB3.out hg4 HB3.out.size lR1).drew
  have O41 := Lib.hid ((O31a.out.grown hg4 (.inr (by intro e; have e2 : some g = some R1 := e; injection e2; omega))).drewN 1)
  have O42 := Lib.hid ((O32a.out.grown hg4 (.inr (by intro e; have e2 : some f = some R1 := e; injection e2; omega))).drewN 1)
  have b4d := b4.drew
  have g5 := Lib.hid (refMac_any A A1 cap cap1 n m l msg w4.drew HN.out HM.out hn hm (HP.out.below B4d.out) (HP1.out.below B4d.out) (HTB.out.below B4d.out) (HTQ.out.below B4d.out))
  rw [← HD.out] at g5
  clear HB3 O31a O32a hg4 q0 b4
  go_wp2_with fail
  refine wp_region_noPanic ?_
  refine wp_region_held_drew (S := fun w' => w'.rangeAt R1 0 (D.map encB)) (by kernel_rfl) (rng_of_blk b4d) (fun hHeld => ?_)
  refine take_on (i := 0) (some 21) (v := .agg (D.map encB).toArray) rfl rfl (by kernel_rfl) (by kernel_rfl) (by kernel_rfl) (fun _ _ _ h => h) (by rfl) ?hyr1 (by with_reducible exact hHeld) ?restr1
  case hyr1 => exact fun wS hSw => exec_load_mid _ _ rfl _ _ rfl _ _ (hSw) arrTy rfl (size32 HND.out)
  try simp only [Act.put, List.setIfInBounds_toArray, List.set_cons_zero, List.set_cons_succ]
  refine take_on (i := 1) (some 22) (v := ?vr2) rfl rfl (by kernel_rfl) (by kernel_rfl) (by kernel_rfl) (fun _ _ _ h => h) (by rfl) ?hyr2 (by with_reducible exact hHeld) ?restr2
  case hyr2 => (intro wS hSw; (try dsimp only at hSw); go_simp; try with_reducible rfl)
  try simp only [Act.put, List.setIfInBounds_toArray, List.set_cons_zero, List.set_cons_succ]
  refine take_on (i := 2) (some 23) (v := ?vr3) rfl rfl (by kernel_rfl) (by kernel_rfl) (by kernel_rfl) (fun _ _ _ h => h) (by rfl) ?hyr3 (by with_reducible exact hHeld) ?restr3
  case hyr3 => (intro wS hSw; (try dsimp only at hSw); go_simp; try with_reducible rfl)
  try simp only [Act.put, List.setIfInBounds_toArray, List.set_cons_zero, List.set_cons_succ]
  refine wpAnyH_ready (rs := [3]) (by kernel_rfl) (by simp) ?_
  refine AllReadyH.cons rfl (fun K hK => ?_) AllReadyH.nil
  go_simp
  with_reducible refine g5.out.mono ?_
  rintro e w5 ⟨rfl, hB5⟩
  have b5 := b4d.below hB5 b4d.lt
  have B5 := Lib.hid (B4d.out.trans (hB5.mono B4d.out.size))
  have O51 := Lib.hid (O41.out.below hB5)
  have O52 := Lib.hid (O42.out.below hB5)
  have g6 := Lib.hid (equal_any D D w5 HND.out HND.out)
  rw [show decide (D = D) = true from decide_eq_true rfl] at g6
  clear g5 hB5 b4d O41 O42
  refine hK.out _ _ (rng_of_blk b5) (fun hHeld => ?_)
  clear hK K
  try simp only [Act.put, List.setIfInBounds_toArray, List.set_cons_zero, List.set_cons_succ]
  refine wpAnyH_ready (rs := [4]) (by kernel_rfl) (by simp) ?_
  refine AllReadyH.cons rfl (fun K hK => ?_) AllReadyH.nil
  go_simp
  refine g6.out.mono ?_
  rintro e w6 ⟨rfl, hB6⟩
  have b6 := b5.below hB6 b5.lt
  have B6 := Lib.hid (B5.out.trans (hB6.mono B5.out.size))
  have O61 := Lib.hid (O51.out.below hB6)
  have O62 := Lib.hid (O52.out.below hB6)
  have r6 := HP.out.below B6.out
  have g7 := untouched_any (some ⟨g, 0, none⟩) A cf cap l w6 (by rw [HN.out]; exact hn) (by rw [HN.out]; exact hcf) (by unfold maxLen; exact hcm) O61.out.rd r6
  rw [HN.out] at g7
  have G7 := Lib.hid g7
  clear g6 hB6 b5 r6 g7 O51 O52
  refine hK.out _ _ (rng_of_blk b6) (fun hHeld => ?_)
  clear hK K
  try simp only [Act.put, List.setIfInBounds_toArray, List.set_cons_zero, List.set_cons_succ]
  refine take_on (i := 5) (some 26) (v := ?vr4) rfl rfl (by kernel_rfl) (by kernel_rfl) (by kernel_rfl) (fun _ _ _ h => h) (by rfl) ?hyr4 (by with_reducible exact hHeld) ?restr4
  case hyr4 => (intro wS hSw; (try dsimp only at hSw); go_simp; try with_reducible rfl)
  try simp only [Act.put, List.setIfInBounds_toArray, List.set_cons_zero, List.set_cons_succ]
  refine take_on (i := 6) (some 27) (v := ?vr5) rfl rfl (by kernel_rfl) (by kernel_rfl) (by kernel_rfl) (fun _ _ _ h => h) (by rfl) ?hyr5 (by with_reducible exact hHeld) ?restr5
  case hyr5 => (intro wS hSw; (try dsimp only at hSw); go_simp; try with_reducible rfl)
  try simp only [Act.put, List.setIfInBounds_toArray, List.set_cons_zero, List.set_cons_succ]
  refine take_on (i := 7) (some 28) (v := ?vr6) rfl rfl (by kernel_rfl) (by kernel_rfl) (by kernel_rfl) (fun _ _ _ h => h) (by rfl) ?hyr6 (by with_reducible exact hHeld) ?restr6
  case hyr6 => (intro wS hSw; (try dsimp only at hSw); go_simp; try with_reducible rfl)
  try simp only [Act.put, List.setIfInBounds_toArray, List.set_cons_zero, List.set_cons_succ]
  refine take_on (i := 8) (some 29) (v := ?vr7) rfl rfl (by kernel_rfl) (by kernel_rfl) (by kernel_rfl) (fun _ _ _ h => h) (by rfl) ?hyr7 (by with_reducible exact hHeld) ?restr7
  case hyr7 => (intro wS hSw; (try dsimp only at hSw); go_simp; try with_reducible rfl)
  try simp only [Act.put, List.setIfInBounds_toArray, List.set_cons_zero, List.set_cons_succ]
  refine wpAnyH_ready (rs := [9]) (by kernel_rfl) (by simp) ?_
  refine AllReadyH.cons rfl (fun K hK => ?_) AllReadyH.nil
  go_simp
  with_reducible refine G7.out.mono ?_
  rintro e w' ⟨rfl, dn, rfl⟩
  have r7 := HP1.out.below (below_drewN B6.out dn)
  have g8 := untouched_any (some ⟨f, 0, none⟩) A1 df cap1 msg (w6.drewN dn) (by rw [HM.out]; exact hm) (by rw [HM.out]; exact hdf) (by unfold maxLen; exact hdm) (O62.out.drewN dn).rd r7
  rw [HM.out] at g8
  have G8 := Lib.hid g8
  clear G7 g8 r7
  refine hK.out _ _ (rng_of_blk (b6.drewN dn)) (fun hHeld => ?_)
  clear hK K
  try simp only [Act.put, List.setIfInBounds_toArray, List.set_cons_zero, List.set_cons_succ]
  refine take_on (i := 10) (some 31) (v := ?vr8) rfl rfl (by kernel_rfl) (by kernel_rfl) (by kernel_rfl) (fun _ _ _ h => h) (by rfl) ?hyr8 (by with_reducible exact hHeld) ?restr8
  case hyr8 => (intro wS hSw; (try dsimp only at hSw); go_simp; try with_reducible rfl)
  try simp only [Act.put, List.setIfInBounds_toArray, List.set_cons_zero, List.set_cons_succ]
  refine take_on (i := 11) (some 32) (v := ?vr9) rfl rfl (by kernel_rfl) (by kernel_rfl) (by kernel_rfl) (fun _ _ _ h => h) (by rfl) ?hyr9 (by with_reducible exact hHeld) ?restr9
  case hyr9 => (intro wS hSw; (try dsimp only at hSw); go_simp; try with_reducible rfl)
  try simp only [Act.put, List.setIfInBounds_toArray, List.set_cons_zero, List.set_cons_succ]
  refine take_on (i := 12) (some 33) (v := ?vr10) rfl rfl (by kernel_rfl) (by kernel_rfl) (by kernel_rfl) (fun _ _ _ h => h) (by rfl) ?hyr10 (by with_reducible exact hHeld) ?restr10
  case hyr10 => (intro wS hSw; (try dsimp only at hSw); go_simp; try with_reducible rfl)
  try simp only [Act.put, List.setIfInBounds_toArray, List.set_cons_zero, List.set_cons_succ]
  refine take_on (i := 13) (some 34) (v := ?vr11) rfl rfl (by kernel_rfl) (by kernel_rfl) (by kernel_rfl) (fun _ _ _ h => h) (by rfl) ?hyr11 (by with_reducible exact hHeld) ?restr11
  case hyr11 => (intro wS hSw; (try dsimp only at hSw); go_simp; try with_reducible rfl)
  try simp only [Act.put, List.setIfInBounds_toArray, List.set_cons_zero, List.set_cons_succ]
  refine take_on (i := 14) (some 35) (v := ?vr12) rfl rfl (by kernel_rfl) (by kernel_rfl) (by kernel_rfl) (fun _ _ _ h => h) (by rfl) ?hyr12 (by with_reducible exact hHeld) ?restr12
  case hyr12 => (intro wS hSw; (try dsimp only at hSw); go_simp; try with_reducible rfl)
  try simp only [Act.put, List.setIfInBounds_toArray, List.set_cons_zero, List.set_cons_succ]
  refine wpAnyH_ready (rs := [15]) (by kernel_rfl) (by simp) ?_
  refine AllReadyH.cons rfl (fun K hK => ?_) AllReadyH.nil
  go_simp
  with_reducible refine G8.out.mono ?_
  rintro e w' ⟨rfl, dm, rfl⟩
  clear G8
  refine hK.out _ _ (rng_of_blk ((b6.drewN dn).drewN dm)) (fun hHeld => ?_)
  clear hK K
  try simp only [Act.put, List.setIfInBounds_toArray, List.set_cons_zero, List.set_cons_succ]
  refine take_on (i := 16) (some 37) (v := ?vr13) rfl rfl (by kernel_rfl) (by kernel_rfl) (by kernel_rfl) (fun _ _ _ h => h) (by rfl) ?hyr13 (by with_reducible exact hHeld) ?restr13
  case hyr13 => (intro wS hSw; (try dsimp only at hSw); go_simp; try with_reducible rfl)
  try simp only [Act.put, List.setIfInBounds_toArray, List.set_cons_zero, List.set_cons_succ]
  refine take_on (i := 17) (some 38) (v := ?vr14) rfl rfl (by kernel_rfl) (by kernel_rfl) (by kernel_rfl) (fun _ _ _ h => h) (by rfl) ?hyr14 (by with_reducible exact hHeld) ?restr14
  case hyr14 => (intro wS hSw; (try dsimp only at hSw); go_simp; try with_reducible rfl)
  try simp only [Act.put, List.setIfInBounds_toArray, List.set_cons_zero, List.set_cons_succ]
  refine wpAnyH_done (by kernel_rfl) ?_ _
  refine NoPanic.normal ?_
  have B7 := below_drewN (below_drewN B6.out dn) dm
  have O71 := ((O61.out.drewN dn).drewN dm).take_ n (by rw [List.length_append, HN.out]; omega)
  rw [List.take_left' HN.out] at O71
  have O72 := ((O62.out.drewN dn).drewN dm).take_ m (by rw [List.length_append, HM.out]; omega)
  rw [List.take_left' HM.out] at O72
  have hb1 : (n : Int) ≤ (cf : Int) := by omega
  have hb2 : (m : Int) ≤ (df : Int) := by omega
  obtain ⟨W7, hW7⟩ : ∃ W7, W7 = (w6.drewN dn).drewN dm := ⟨_, rfl⟩
  rw [← hW7] at B7 O71 O72 ⊢
  have g9 := Lib.hid (spoil_any f m df w.heap.size 85 msg W7 HM.out (by unfold maxLen; exact hdm) O72)
  have HB7 := Lib.hid B7
  have HO71 := Lib.hid O71
  clear hW7 B7 O71 O72 b6 B6 O61 O62
  go_wp2_with fail
  refine g9.out.mono ?_
  rintro e w8 ⟨rfl, hO8, hg8⟩
  have hl2 : (msg.map (· ^^^ ((85 : UInt8) ||| 1))).length = m := by rw [List.length_map]; exact HM.out
  generalize msg.map (· ^^^ ((85 : UInt8) ||| 1)) = q at hl2 hO8
  have HQ := Lib.hid hl2
  have O82 := Lib.hid hO8
  have O81 := Lib.hid (HO71.out.grown hg8 (.inr (by intro e; have e2 : some g = some f := e; injection e2; omega)))
  have B8 := Lib.hid (below_only HB7.out hg8 HB7.out.size hwf)
  clear hl2 hO8 hg8 g9 HO71 HB7
  go_wp2_with fail
  obtain ⟨D2, hD2⟩ : ∃ D, D = macL ksL startS l q := ⟨_, rfl⟩
  have HD2 := Lib.hid hD2
  have HND2 := Lib.hid (show D2.length = 32 by rw [hD2]; exact digestL_len _ _ _)
  have Od1 := Lib.hid (O81.out.drewN 1)
  have Od2 := Lib.hid (O82.out.drewN 1)
  have Bd := Lib.hid B8.out.drew
  have gA := Lib.hid (mac_n ksL ksL_len startS (some ⟨g, 0, none⟩) (some ⟨f, 0, none⟩) cf df n m l q w8.drew HN.out HQ.out (by omega) (by omega) (by omega) Od1.out.rd (by omega) (by omega) (by omega) Od2.out.rd (HT.out.below Bd.out) (HS.out.below Bd.out))
  have Bd2 := Lib.hid (Bd.out.alloc Bd.out.size (.cells (arr encB zero32) 36))
  have gB := Lib.hid (mac_n ksL ksL_len startS (some ⟨g, 0, none⟩) (some ⟨f, 0, none⟩) cf df n m l q (w8.alloc (.cells (arr encB zero32) 36)).drew HN.out HQ.out (by omega) (by omega) (by omega) (Od1.out.alloc _).rd (by omega) (by omega) (by omega) (Od2.out.alloc _).rd (HT.out.below Bd2.out) (HS.out.below Bd2.out))
  rw [← hD2] at gA gB
  clear hD2 O81 O82 B8
  go_cut [8] (fun t8 wx => ∃ R : Nat, t8 = .pointer (some ⟨R, 0, none⟩) ∧ Blk wx R 36 (arr encB D2) ∧ Own encB 5 wx w.heap.size (.slice (some ⟨g, 0, none⟩) n cf) l ∧ Own encB 5 wx w.heap.size (.slice (some ⟨f, 0, none⟩) m df) q ∧ Below w.heap.size w wx)
  case first =>
    refine wp_region_noPanic ?_
    refine wp_region_held_drew (S := fun _ => True) (by kernel_rfl) trivial (fun hHeld => ?_)
    refine take_on (i := 0) (some 44) (v := ?vr15) rfl rfl (by kernel_rfl) (by kernel_rfl) (by kernel_rfl) (fun _ _ _ h => h) (by rfl) ?hyr15 (by with_reducible exact hHeld) ?restr15
    case hyr15 => (intro wS hSw; (try dsimp only at hSw); go_simp; try with_reducible rfl)
    try simp only [Act.put, List.setIfInBounds_toArray, List.set_cons_zero, List.set_cons_succ]
    refine take_on (i := 1) (some 45) (v := ?vr16) rfl rfl (by kernel_rfl) (by kernel_rfl) (by kernel_rfl) (fun _ _ _ h => h) (by rfl) ?hyr16 (by with_reducible exact hHeld) ?restr16
    case hyr16 => (intro wS hSw; (try dsimp only at hSw); go_simp; try with_reducible rfl)
    try simp only [Act.put, List.setIfInBounds_toArray, List.set_cons_zero, List.set_cons_succ]
    refine take_on (i := 2) (some 46) (v := ?vr17) rfl rfl (by kernel_rfl) (by kernel_rfl) (by kernel_rfl) (fun _ _ _ h => h) (by rfl) ?hyr17 (by with_reducible exact hHeld) ?restr17
    case hyr17 => (intro wS hSw; (try dsimp only at hSw); go_simp; try with_reducible rfl)
    try simp only [Act.put, List.setIfInBounds_toArray, List.set_cons_zero, List.set_cons_succ]
    refine take_on (i := 3) (some 47) (v := ?vr18) rfl rfl (by kernel_rfl) (by kernel_rfl) (by kernel_rfl) (fun _ _ _ h => h) (by rfl) ?hyr18 (by with_reducible exact hHeld) ?restr18
    case hyr18 => (intro wS hSw; (try dsimp only at hSw); go_simp; try with_reducible rfl)
    try simp only [Act.put, List.setIfInBounds_toArray, List.set_cons_zero, List.set_cons_succ]
    refine take_on (i := 4) (some 48) (v := ?vr19) rfl rfl (by kernel_rfl) (by kernel_rfl) (by kernel_rfl) (fun _ _ _ h => h) (by rfl) ?hyr19 (by with_reducible exact hHeld) ?restr19
    case hyr19 => (intro wS hSw; (try dsimp only at hSw); go_simp; try with_reducible rfl)
    try simp only [Act.put, List.setIfInBounds_toArray, List.set_cons_zero, List.set_cons_succ]
    refine take_on (i := 5) (some 49) (v := ?vr20) rfl rfl (by kernel_rfl) (by kernel_rfl) (by kernel_rfl) (fun _ _ _ h => h) (by rfl) ?hyr20 (by with_reducible exact hHeld) ?restr20
    case hyr20 => (intro wS hSw; (try dsimp only at hSw); go_simp; try with_reducible rfl)
    try simp only [Act.put, List.setIfInBounds_toArray, List.set_cons_zero, List.set_cons_succ]
    refine take_on (i := 6) (some 50) (v := ?vr21) rfl rfl (by kernel_rfl) (by kernel_rfl) (by kernel_rfl) (fun _ _ _ h => h) (by rfl) ?hyr21 (by with_reducible exact hHeld) ?restr21
    case hyr21 => (intro wS hSw; (try dsimp only at hSw); go_simp; try with_reducible rfl)
    try simp only [Act.put, List.setIfInBounds_toArray, List.set_cons_zero, List.set_cons_succ]
    refine take_on (i := 7) (some 51) (v := ?vr22) rfl rfl (by kernel_rfl) (by kernel_rfl) (by kernel_rfl) (fun _ _ _ h => h) (by rfl) ?hyr22 (by with_reducible exact hHeld) ?restr22
    case hyr22 => (intro wS hSw; (try dsimp only at hSw); go_simp; try with_reducible rfl)
    try simp only [Act.put, List.setIfInBounds_toArray, List.set_cons_zero, List.set_cons_succ]
    refine wpAnyH_ready (rs := [8, 9]) (by kernel_rfl) (by simp) ?_
    refine AllReadyH.cons rfl (fun K hK => ?_) ?_
    · go_simp
      with_reducible refine gA.out.mono ?_
      rintro e wY ⟨rfl, hBY⟩
      refine hK.out _ _ trivial (fun _ => ?_)
      clear hK K
      try simp only [Act.put, List.setIfInBounds_toArray, List.set_cons_zero, List.set_cons_succ]
      obtain ⟨R, hR⟩ : ∃ R, R = wY.heap.size := ⟨_, rfl⟩
      have HR := Lib.hid hR
      have hfR : f < R := by rw [hR]; have := (Od2.out.below hBY).lt f rfl; exact this.2
      have oz1 := (Od1.out.below hBY).alloc (.cells (arr encB zero32) 36)
      have oz2 := (Od2.out.below hBY).alloc (.cells (arr encB zero32) 36)
      have qz : Blk (wY.alloc (.cells (arr encB zero32) 36)) R 36 (arr encB zero32) := by rw [hR]; exact Blk.new wY _ _
      have cy := Bd.out.trans (hBY.mono Bd.out.size)
      have cz := cy.alloc cy.size (.cells (arr encB zero32) 36)
      clear hR hBY cy gA gB
      refine wpAnyH_ready (rs := [9]) (by kernel_rfl) (by simp) ?_
      refine AllReadyH.cons rfl (fun K hK => ?_) AllReadyH.nil
      go_simp
      rw [← HR.out]
      refine hK.out _ _ trivial (fun _ => ?_)
      clear hK K
      try simp only [Act.put, List.setIfInBounds_toArray, List.set_cons_zero, List.set_cons_succ]
      refine wpAnyH_ready (rs := [10]) (by kernel_rfl) (by simp) ?_
      refine AllReadyH.cons rfl (fun K hK => ?_) AllReadyH.nil
      refine step_store_blk (by rfl) 36 (.tmp 8) (.tmp 52) rfl R 36 (arr encB zero32) (arr encB D2) (by exact qz) rfl rfl (arrSz HND2.out) (by rw [arr_size, arr_size, zero32_len, HND2.out]) (arr_one encB_one _) ?_
      intro wZ bZ hgZ hsZ
      refine hK.out _ _ trivial (fun _ => ?_)
      clear hK K
      try simp only [Act.put, List.setIfInBounds_toArray, List.set_cons_zero, List.set_cons_succ]
      refine wpAnyH_done (by kernel_rfl) ?_ _
      refine NoPanic.normal ?_
      go_wp2
      go_meet
      exact ⟨R, rfl, bZ, oz1.grown hgZ (.inr (by intro e; have e2 : some g = some R := e; injection e2; omega)), oz2.grown hgZ (.inr (by intro e; have e2 : some f = some R := e; injection e2; omega)), below_only cz hgZ cz.size (by omega)⟩
    · refine AllReadyH.cons rfl (fun K hK => ?_) AllReadyH.nil
      obtain ⟨R, hR⟩ : ∃ R, R = w8.drew.heap.size := ⟨_, rfl⟩
      have HR := Lib.hid (show w8.heap.size = R from hR.symm)
      have hfR : f < R := by rw [hR]; have := Od2.out.lt f rfl; exact this.2
      have qy : Blk (w8.drew.alloc (.cells (arr encB zero32) 36)) R 36 (arr encB zero32) := by rw [hR]; exact Blk.new _ _ _
      clear hR gA
      go_simp
      rw [HR.out]
      refine hK.out _ _ trivial (fun _ => ?_)
      clear hK K
      try simp only [Act.put, List.setIfInBounds_toArray, List.set_cons_zero, List.set_cons_succ]
      refine wpAnyH_ready (rs := [8]) (by kernel_rfl) (by simp) ?_
      refine AllReadyH.cons rfl (fun K hK => ?_) AllReadyH.nil
      go_simp
      with_reducible refine gB.out.mono ?_
      rintro e wY ⟨rfl, hBY⟩
      refine hK.out _ _ trivial (fun _ => ?_)
      clear hK K
      try simp only [Act.put, List.setIfInBounds_toArray, List.set_cons_zero, List.set_cons_succ]
      have oz1 := (Od1.out.alloc (.cells (arr encB zero32) 36)).below hBY
      have oz2 := (Od2.out.alloc (.cells (arr encB zero32) 36)).below hBY
      have qz := qy.below hBY qy.lt
      have cz := Bd2.out.trans (hBY.mono Bd2.out.size)
      clear hBY gB
      refine wpAnyH_ready (rs := [10]) (by kernel_rfl) (by simp) ?_
      refine AllReadyH.cons rfl (fun K hK => ?_) AllReadyH.nil
      refine step_store_blk (by rfl) 36 (.tmp 8) (.tmp 52) rfl R 36 (arr encB zero32) (arr encB D2) (by exact qz) rfl rfl (arrSz HND2.out) (by rw [arr_size, arr_size, zero32_len, HND2.out]) (arr_one encB_one _) ?_
      intro wZ bZ hgZ hsZ
      refine hK.out _ _ trivial (fun _ => ?_)
      clear hK K
      try simp only [Act.put, List.setIfInBounds_toArray, List.set_cons_zero, List.set_cons_succ]
      refine wpAnyH_done (by kernel_rfl) ?_ _
      refine NoPanic.normal ?_
      go_wp2
      go_meet
      exact ⟨R, rfl, bZ, oz1.grown hgZ (.inr (by intro e; have e2 : some g = some R := e; injection e2; omega)), oz2.grown hgZ (.inr (by intro e; have e2 : some f = some R := e; injection e2; omega)), below_only cz hgZ cz.size (by omega)⟩
  case rest =>
    obtain ⟨R2, rfl, bR, o1, o2, hBx⟩ := hcut
    have O1x := Lib.hid (o1.drewN 1)
    have O2x := Lib.hid (o2.drewN 1)
    have Bx := Lib.hid hBx.drew
    have bRd := bR.drew
    clear o1 o2 hBx bR Od1 Od2 Bd Bd2 gA gB
    go_wp2_with fail
    have gC := Lib.hid (copied_n (some ⟨f, 0, none⟩) df m q wc.drew HQ.out (by omega) O2x.out.rd)
    refine wp_region_noPanic ?_
    refine wp_region_held_drew (S := fun w' => w'.rangeAt R2 0 (D2.map encB)) (by kernel_rfl) (rng_of_blk bRd) (fun hHeld => ?_)
    refine take_on (i := 0) (some 53) (v := .agg (D2.map encB).toArray) rfl rfl (by kernel_rfl) (by kernel_rfl) (by kernel_rfl) (fun _ _ _ h => h) (by rfl) ?hyr23 (by with_reducible exact hHeld) ?restr23
    case hyr23 => exact fun wS hSw => exec_load_mid _ _ rfl _ _ rfl _ _ (hSw) arrTy rfl (size32 HND2.out)
    try simp only [Act.put, List.setIfInBounds_toArray, List.set_cons_zero, List.set_cons_succ]
    refine take_on (i := 1) (some 54) (v := ?vr24) rfl rfl (by kernel_rfl) (by kernel_rfl) (by kernel_rfl) (fun _ _ _ h => h) (by rfl) ?hyr24 (by with_reducible exact hHeld) ?restr24
    case hyr24 => (intro wS hSw; (try dsimp only at hSw); go_simp; try with_reducible rfl)
    try simp only [Act.put, List.setIfInBounds_toArray, List.set_cons_zero, List.set_cons_succ]
    refine take_on (i := 2) (some 55) (v := ?vr25) rfl rfl (by kernel_rfl) (by kernel_rfl) (by kernel_rfl) (fun _ _ _ h => h) (by rfl) ?hyr25 (by with_reducible exact hHeld) ?restr25
    case hyr25 => (intro wS hSw; (try dsimp only at hSw); go_simp; try with_reducible rfl)
    try simp only [Act.put, List.setIfInBounds_toArray, List.set_cons_zero, List.set_cons_succ]
    refine take_on (i := 3) (some 56) (v := ?vr26) rfl rfl (by kernel_rfl) (by kernel_rfl) (by kernel_rfl) (fun _ _ _ h => h) (by rfl) ?hyr26 (by with_reducible exact hHeld) ?restr26
    case hyr26 => (intro wS hSw; (try dsimp only at hSw); go_simp; try with_reducible rfl)
    try simp only [Act.put, List.setIfInBounds_toArray, List.set_cons_zero, List.set_cons_succ]
    refine take_on (i := 4) (some 57) (v := ?vr27) rfl rfl (by kernel_rfl) (by kernel_rfl) (by kernel_rfl) (fun _ _ _ h => h) (by rfl) ?hyr27 (by with_reducible exact hHeld) ?restr27
    case hyr27 => (intro wS hSw; (try dsimp only at hSw); go_simp; try with_reducible rfl)
    try simp only [Act.put, List.setIfInBounds_toArray, List.set_cons_zero, List.set_cons_succ]
    refine take_on (i := 5) (some 58) (v := ?vr28) rfl rfl (by kernel_rfl) (by kernel_rfl) (by kernel_rfl) (fun _ _ _ h => h) (by rfl) ?hyr28 (by with_reducible exact hHeld) ?restr28
    case hyr28 => (intro wS hSw; (try dsimp only at hSw); go_simp; try with_reducible rfl)
    try simp only [Act.put, List.setIfInBounds_toArray, List.set_cons_zero, List.set_cons_succ]
    refine wpAnyH_ready (rs := [6]) (by kernel_rfl) (by simp) ?_
    refine AllReadyH.cons rfl (fun K hK => ?_) AllReadyH.nil
    go_simp
    refine gC.out.mono ?_
    rintro e wD ⟨v, rfl, ov, hBD⟩
    obtain ⟨A5, c5, hv, hc5, r5, _⟩ := ov.slice
    rw [HQ.out] at hv
    subst hv
    have bD := bRd.below hBD bRd.lt
    have BD := Lib.hid (Bx.out.trans (hBD.mono Bx.out.size))
    have O1D := Lib.hid (O1x.out.below hBD)
    have O2D := Lib.hid (O2x.out.below hBD)
    have gD := Lib.hid (refMac_any A A5 cap c5 n m l q wD HN.out HQ.out hn hm (HP.out.below BD.out) r5 (HTB.out.below BD.out) (HTQ.out.below BD.out))
    rw [← HD2.out] at gD
    clear gC ov hc5 r5 hBD bRd O1x O2x
    refine hK.out _ _ (rng_of_blk bD) (fun hHeld => ?_)
    clear hK K
    try simp only [Act.put, List.setIfInBounds_toArray, List.set_cons_zero, List.set_cons_succ]
    refine wpAnyH_ready (rs := [7]) (by kernel_rfl) (by simp) ?_
    refine AllReadyH.cons rfl (fun K hK => ?_) AllReadyH.nil
    go_simp
    with_reducible refine gD.out.mono ?_
    rintro e wE ⟨rfl, hBE⟩
    have bE := bD.below hBE bD.lt
    have BE := Lib.hid (BD.out.trans (hBE.mono BD.out.size))
    have O1E := Lib.hid (O1D.out.below hBE)
    have O2E := Lib.hid (O2D.out.below hBE)
    have gE := Lib.hid (equal_any D2 D2 wE HND2.out HND2.out)
    rw [show decide (D2 = D2) = true from decide_eq_true rfl] at gE
    clear gD hBE bD O1D O2D
    refine hK.out _ _ (rng_of_blk bE) (fun hHeld => ?_)
    clear hK K
    try simp only [Act.put, List.setIfInBounds_toArray, List.set_cons_zero, List.set_cons_succ]
    refine wpAnyH_ready (rs := [8]) (by kernel_rfl) (by simp) ?_
    refine AllReadyH.cons rfl (fun K hK => ?_) AllReadyH.nil
    go_simp
    refine gE.out.mono ?_
    rintro e wF ⟨rfl, hBF⟩
    have bF := bE.below hBF bE.lt
    have BF := Lib.hid (BE.out.trans (hBF.mono BE.out.size))
    have O1F := Lib.hid (O1E.out.below hBF)
    have O2F := Lib.hid (O2E.out.below hBF)
    clear gE hBF bE O1E O2E
    refine hK.out _ _ (rng_of_blk bF) (fun hHeld => ?_)
    clear hK K
    try simp only [Act.put, List.setIfInBounds_toArray, List.set_cons_zero, List.set_cons_succ]
    refine take_on (i := 9) (some 62) (v := ?vr29) rfl rfl (by kernel_rfl) (by kernel_rfl) (by kernel_rfl) (fun _ _ _ h => h) (by rfl) ?hyr29 (by with_reducible exact hHeld) ?restr29
    case hyr29 => (intro wS hSw; (try dsimp only at hSw); go_simp; try with_reducible rfl)
    try simp only [Act.put, List.setIfInBounds_toArray, List.set_cons_zero, List.set_cons_succ]
    refine wpAnyH_done (by kernel_rfl) ?_ _
    refine NoPanic.normal ?_
    have gF := Lib.hid (spoil_any g n cf w.heap.size 51 l wF HN.out (by unfold maxLen; exact hcm) O1F.out)
    clear bF
    go_wp2_with fail
    refine gF.out.mono ?_
    rintro e w9 ⟨rfl, hO9, hg9⟩
    have hl3 : (l.map (· ^^^ ((51 : UInt8) ||| 1))).length = n := by rw [List.length_map]; exact HN.out
    generalize l.map (· ^^^ ((51 : UInt8) ||| 1)) = k at hl3 hO9
    have HK := Lib.hid hl3
    have O91 := Lib.hid hO9
    have O92 := Lib.hid (O2F.out.grown hg9 (.inr (by intro e; have e2 : some f = some g := e; injection e2; omega)))
    have B9 := Lib.hid (below_only BF.out hg9 BF.out.size hg)
    clear hl3 hO9 hg9 gF O1F O2F BF
    go_wp2_with fail
    obtain ⟨D3, hD3⟩ : ∃ D, D = macL ksL startS k q := ⟨_, rfl⟩
    have HD3 := Lib.hid hD3
    have HND3 := Lib.hid (show D3.length = 32 by rw [hD3]; exact digestL_len _ _ _)
    have Od1 := Lib.hid (O91.out.drewN 1)
    have Od2 := Lib.hid (O92.out.drewN 1)
    have Bd := Lib.hid B9.out.drew
    have gA := Lib.hid (mac_n ksL ksL_len startS (some ⟨g, 0, none⟩) (some ⟨f, 0, none⟩) cf df n m k q w9.drew HK.out HQ.out (by omega) (by omega) (by omega) Od1.out.rd (by omega) (by omega) (by omega) Od2.out.rd (HT.out.below Bd.out) (HS.out.below Bd.out))
    have Bd2 := Lib.hid (Bd.out.alloc Bd.out.size (.cells (arr encB zero32) 36))
    have gB := Lib.hid (mac_n ksL ksL_len startS (some ⟨g, 0, none⟩) (some ⟨f, 0, none⟩) cf df n m k q (w9.alloc (.cells (arr encB zero32) 36)).drew HK.out HQ.out (by omega) (by omega) (by omega) (Od1.out.alloc _).rd (by omega) (by omega) (by omega) (Od2.out.alloc _).rd (HT.out.below Bd2.out) (HS.out.below Bd2.out))
    rw [← hD3] at gA gB
    clear hD3 O91 O92 B9
    go_cut [9] (fun t8 wx => ∃ R : Nat, t8 = .pointer (some ⟨R, 0, none⟩) ∧ Blk wx R 36 (arr encB D3) ∧ Own encB 5 wx w.heap.size (.slice (some ⟨g, 0, none⟩) n cf) k ∧ Own encB 5 wx w.heap.size (.slice (some ⟨f, 0, none⟩) m df) q ∧ Below w.heap.size w wx)
    case first =>
      refine wp_region_noPanic ?_
      refine wp_region_held_drew (S := fun _ => True) (by kernel_rfl) trivial (fun hHeld => ?_)
      refine take_on (i := 0) (some 68) (v := ?vr30) rfl rfl (by kernel_rfl) (by kernel_rfl) (by kernel_rfl) (fun _ _ _ h => h) (by rfl) ?hyr30 (by with_reducible exact hHeld) ?restr30
      case hyr30 => (intro wS hSw; (try dsimp only at hSw); go_simp; try with_reducible rfl)
      try simp only [Act.put, List.setIfInBounds_toArray, List.set_cons_zero, List.set_cons_succ]
      refine take_on (i := 1) (some 69) (v := ?vr31) rfl rfl (by kernel_rfl) (by kernel_rfl) (by kernel_rfl) (fun _ _ _ h => h) (by rfl) ?hyr31 (by with_reducible exact hHeld) ?restr31
      case hyr31 => (intro wS hSw; (try dsimp only at hSw); go_simp; try with_reducible rfl)
      try simp only [Act.put, List.setIfInBounds_toArray, List.set_cons_zero, List.set_cons_succ]
      refine take_on (i := 2) (some 70) (v := ?vr32) rfl rfl (by kernel_rfl) (by kernel_rfl) (by kernel_rfl) (fun _ _ _ h => h) (by rfl) ?hyr32 (by with_reducible exact hHeld) ?restr32
      case hyr32 => (intro wS hSw; (try dsimp only at hSw); go_simp; try with_reducible rfl)
      try simp only [Act.put, List.setIfInBounds_toArray, List.set_cons_zero, List.set_cons_succ]
      refine take_on (i := 3) (some 71) (v := ?vr33) rfl rfl (by kernel_rfl) (by kernel_rfl) (by kernel_rfl) (fun _ _ _ h => h) (by rfl) ?hyr33 (by with_reducible exact hHeld) ?restr33
      case hyr33 => (intro wS hSw; (try dsimp only at hSw); go_simp; try with_reducible rfl)
      try simp only [Act.put, List.setIfInBounds_toArray, List.set_cons_zero, List.set_cons_succ]
      refine take_on (i := 4) (some 72) (v := ?vr34) rfl rfl (by kernel_rfl) (by kernel_rfl) (by kernel_rfl) (fun _ _ _ h => h) (by rfl) ?hyr34 (by with_reducible exact hHeld) ?restr34
      case hyr34 => (intro wS hSw; (try dsimp only at hSw); go_simp; try with_reducible rfl)
      try simp only [Act.put, List.setIfInBounds_toArray, List.set_cons_zero, List.set_cons_succ]
      refine take_on (i := 5) (some 73) (v := ?vr35) rfl rfl (by kernel_rfl) (by kernel_rfl) (by kernel_rfl) (fun _ _ _ h => h) (by rfl) ?hyr35 (by with_reducible exact hHeld) ?restr35
      case hyr35 => (intro wS hSw; (try dsimp only at hSw); go_simp; try with_reducible rfl)
      try simp only [Act.put, List.setIfInBounds_toArray, List.set_cons_zero, List.set_cons_succ]
      refine take_on (i := 6) (some 74) (v := ?vr36) rfl rfl (by kernel_rfl) (by kernel_rfl) (by kernel_rfl) (fun _ _ _ h => h) (by rfl) ?hyr36 (by with_reducible exact hHeld) ?restr36
      case hyr36 => (intro wS hSw; (try dsimp only at hSw); go_simp; try with_reducible rfl)
      try simp only [Act.put, List.setIfInBounds_toArray, List.set_cons_zero, List.set_cons_succ]
      refine take_on (i := 7) (some 75) (v := ?vr37) rfl rfl (by kernel_rfl) (by kernel_rfl) (by kernel_rfl) (fun _ _ _ h => h) (by rfl) ?hyr37 (by with_reducible exact hHeld) ?restr37
      case hyr37 => (intro wS hSw; (try dsimp only at hSw); go_simp; try with_reducible rfl)
      try simp only [Act.put, List.setIfInBounds_toArray, List.set_cons_zero, List.set_cons_succ]
      refine wpAnyH_ready (rs := [8, 9]) (by kernel_rfl) (by simp) ?_
      refine AllReadyH.cons rfl (fun K hK => ?_) ?_
      · go_simp
        with_reducible refine gA.out.mono ?_
        rintro e wY ⟨rfl, hBY⟩
        refine hK.out _ _ trivial (fun _ => ?_)
        clear hK K
        try simp only [Act.put, List.setIfInBounds_toArray, List.set_cons_zero, List.set_cons_succ]
        obtain ⟨R, hR⟩ : ∃ R, R = wY.heap.size := ⟨_, rfl⟩
        have HR := Lib.hid hR
        have hfR : f < R := by rw [hR]; have := (Od2.out.below hBY).lt f rfl; exact this.2
        have oz1 := (Od1.out.below hBY).alloc (.cells (arr encB zero32) 36)
        have oz2 := (Od2.out.below hBY).alloc (.cells (arr encB zero32) 36)
        have qz : Blk (wY.alloc (.cells (arr encB zero32) 36)) R 36 (arr encB zero32) := by rw [hR]; exact Blk.new wY _ _
        have cy := Bd.out.trans (hBY.mono Bd.out.size)
        have cz := cy.alloc cy.size (.cells (arr encB zero32) 36)
        clear hR hBY cy gA gB
        refine wpAnyH_ready (rs := [9]) (by kernel_rfl) (by simp) ?_
        refine AllReadyH.cons rfl (fun K hK => ?_) AllReadyH.nil
        go_simp
        rw [← HR.out]
        refine hK.out _ _ trivial (fun _ => ?_)
        clear hK K
        try simp only [Act.put, List.setIfInBounds_toArray, List.set_cons_zero, List.set_cons_succ]
        refine wpAnyH_ready (rs := [10]) (by kernel_rfl) (by simp) ?_
        refine AllReadyH.cons rfl (fun K hK => ?_) AllReadyH.nil
        refine step_store_blk (by rfl) 36 (.tmp 9) (.tmp 76) rfl R 36 (arr encB zero32) (arr encB D3) (by exact qz) rfl rfl (arrSz HND3.out) (by rw [arr_size, arr_size, zero32_len, HND3.out]) (arr_one encB_one _) ?_
        intro wZ bZ hgZ hsZ
        refine hK.out _ _ trivial (fun _ => ?_)
        clear hK K
        try simp only [Act.put, List.setIfInBounds_toArray, List.set_cons_zero, List.set_cons_succ]
        refine wpAnyH_done (by kernel_rfl) ?_ _
        refine NoPanic.normal ?_
        go_wp2
        go_meet
        exact ⟨R, rfl, bZ, oz1.grown hgZ (.inr (by intro e; have e2 : some g = some R := e; injection e2; omega)), oz2.grown hgZ (.inr (by intro e; have e2 : some f = some R := e; injection e2; omega)), below_only cz hgZ cz.size (by omega)⟩
      · refine AllReadyH.cons rfl (fun K hK => ?_) AllReadyH.nil
        obtain ⟨R, hR⟩ : ∃ R, R = w9.drew.heap.size := ⟨_, rfl⟩
        have HR := Lib.hid (show w9.heap.size = R from hR.symm)
        have hfR : f < R := by rw [hR]; have := Od2.out.lt f rfl; exact this.2
        have qy : Blk (w9.drew.alloc (.cells (arr encB zero32) 36)) R 36 (arr encB zero32) := by rw [hR]; exact Blk.new _ _ _
        clear hR gA
        go_simp
        rw [HR.out]
        refine hK.out _ _ trivial (fun _ => ?_)
        clear hK K
        try simp only [Act.put, List.setIfInBounds_toArray, List.set_cons_zero, List.set_cons_succ]
        refine wpAnyH_ready (rs := [8]) (by kernel_rfl) (by simp) ?_
        refine AllReadyH.cons rfl (fun K hK => ?_) AllReadyH.nil
        go_simp
        with_reducible refine gB.out.mono ?_
        rintro e wY ⟨rfl, hBY⟩
        refine hK.out _ _ trivial (fun _ => ?_)
        clear hK K
        try simp only [Act.put, List.setIfInBounds_toArray, List.set_cons_zero, List.set_cons_succ]
        have oz1 := (Od1.out.alloc (.cells (arr encB zero32) 36)).below hBY
        have oz2 := (Od2.out.alloc (.cells (arr encB zero32) 36)).below hBY
        have qz := qy.below hBY qy.lt
        have cz := Bd2.out.trans (hBY.mono Bd2.out.size)
        clear hBY gB
        refine wpAnyH_ready (rs := [10]) (by kernel_rfl) (by simp) ?_
        refine AllReadyH.cons rfl (fun K hK => ?_) AllReadyH.nil
        refine step_store_blk (by rfl) 36 (.tmp 9) (.tmp 76) rfl R 36 (arr encB zero32) (arr encB D3) (by exact qz) rfl rfl (arrSz HND3.out) (by rw [arr_size, arr_size, zero32_len, HND3.out]) (arr_one encB_one _) ?_
        intro wZ bZ hgZ hsZ
        refine hK.out _ _ trivial (fun _ => ?_)
        clear hK K
        try simp only [Act.put, List.setIfInBounds_toArray, List.set_cons_zero, List.set_cons_succ]
        refine wpAnyH_done (by kernel_rfl) ?_ _
        refine NoPanic.normal ?_
        go_wp2
        go_meet
        exact ⟨R, rfl, bZ, oz1.grown hgZ (.inr (by intro e; have e2 : some g = some R := e; injection e2; omega)), oz2.grown hgZ (.inr (by intro e; have e2 : some f = some R := e; injection e2; omega)), below_only cz hgZ cz.size (by omega)⟩
    case rest =>
      obtain ⟨R3, rfl, bR, o1, o2, hBx⟩ := hcut
      have O1x := Lib.hid (o1.drewN 1)
      have O2x := Lib.hid (o2.drewN 1)
      have Bx := Lib.hid hBx.drew
      have bRd := bR.drew
      clear o1 o2 hBx bR Od1 Od2 Bd Bd2 gA gB
      go_wp2_with fail
      have gC := Lib.hid (copied_n (some ⟨g, 0, none⟩) cf n k wc.drew HK.out (by omega) O1x.out.rd)
      refine wp_region_noPanic ?_
      refine wp_region_held_drew (S := fun w' => w'.rangeAt R3 0 (D3.map encB)) (by kernel_rfl) (rng_of_blk bRd) (fun hHeld => ?_)
      refine take_on (i := 0) (some 77) (v := .agg (D3.map encB).toArray) rfl rfl (by kernel_rfl) (by kernel_rfl) (by kernel_rfl) (fun _ _ _ h => h) (by rfl) ?hyr38 (by with_reducible exact hHeld) ?restr38
      case hyr38 => exact fun wS hSw => exec_load_mid _ _ rfl _ _ rfl _ _ (hSw) arrTy rfl (size32 HND3.out)
      try simp only [Act.put, List.setIfInBounds_toArray, List.set_cons_zero, List.set_cons_succ]
      refine take_on (i := 1) (some 78) (v := ?vr39) rfl rfl (by kernel_rfl) (by kernel_rfl) (by kernel_rfl) (fun _ _ _ h => h) (by rfl) ?hyr39 (by with_reducible exact hHeld) ?restr39
      case hyr39 => (intro wS hSw; (try dsimp only at hSw); go_simp; try with_reducible rfl)
      try simp only [Act.put, List.setIfInBounds_toArray, List.set_cons_zero, List.set_cons_succ]
      refine take_on (i := 2) (some 79) (v := ?vr40) rfl rfl (by kernel_rfl) (by kernel_rfl) (by kernel_rfl) (fun _ _ _ h => h) (by rfl) ?hyr40 (by with_reducible exact hHeld) ?restr40
      case hyr40 => (intro wS hSw; (try dsimp only at hSw); go_simp; try with_reducible rfl)
      try simp only [Act.put, List.setIfInBounds_toArray, List.set_cons_zero, List.set_cons_succ]
      refine take_on (i := 3) (some 80) (v := ?vr41) rfl rfl (by kernel_rfl) (by kernel_rfl) (by kernel_rfl) (fun _ _ _ h => h) (by rfl) ?hyr41 (by with_reducible exact hHeld) ?restr41
      case hyr41 => (intro wS hSw; (try dsimp only at hSw); go_simp; try with_reducible rfl)
      try simp only [Act.put, List.setIfInBounds_toArray, List.set_cons_zero, List.set_cons_succ]
      refine take_on (i := 4) (some 81) (v := ?vr42) rfl rfl (by kernel_rfl) (by kernel_rfl) (by kernel_rfl) (fun _ _ _ h => h) (by rfl) ?hyr42 (by with_reducible exact hHeld) ?restr42
      case hyr42 => (intro wS hSw; (try dsimp only at hSw); go_simp; try with_reducible rfl)
      try simp only [Act.put, List.setIfInBounds_toArray, List.set_cons_zero, List.set_cons_succ]
      refine take_on (i := 6) (some 83) (v := ?vr43) rfl rfl (by kernel_rfl) (by kernel_rfl) (by kernel_rfl) (fun _ _ _ h => h) (by rfl) ?hyr43 (by with_reducible exact hHeld) ?restr43
      case hyr43 => (intro wS hSw; (try dsimp only at hSw); go_simp; try with_reducible rfl)
      try simp only [Act.put, List.setIfInBounds_toArray, List.set_cons_zero, List.set_cons_succ]
      refine take_on (i := 7) (some 84) (v := ?vr44) rfl rfl (by kernel_rfl) (by kernel_rfl) (by kernel_rfl) (fun _ _ _ h => h) (by rfl) ?hyr44 (by with_reducible exact hHeld) ?restr44
      case hyr44 => (intro wS hSw; (try dsimp only at hSw); go_simp; try with_reducible rfl)
      try simp only [Act.put, List.setIfInBounds_toArray, List.set_cons_zero, List.set_cons_succ]
      refine take_on (i := 8) (some 85) (v := ?vr45) rfl rfl (by kernel_rfl) (by kernel_rfl) (by kernel_rfl) (fun _ _ _ h => h) (by rfl) ?hyr45 (by with_reducible exact hHeld) ?restr45
      case hyr45 => (intro wS hSw; (try dsimp only at hSw); go_simp; try with_reducible rfl)
      try simp only [Act.put, List.setIfInBounds_toArray, List.set_cons_zero, List.set_cons_succ]
      refine take_on (i := 9) (some 86) (v := ?vr46) rfl rfl (by kernel_rfl) (by kernel_rfl) (by kernel_rfl) (fun _ _ _ h => h) (by rfl) ?hyr46 (by with_reducible exact hHeld) ?restr46
      case hyr46 => (intro wS hSw; (try dsimp only at hSw); go_simp; try with_reducible rfl)
      try simp only [Act.put, List.setIfInBounds_toArray, List.set_cons_zero, List.set_cons_succ]
      refine wpAnyH_ready (rs := [5]) (by kernel_rfl) (by simp) ?_
      refine AllReadyH.cons rfl (fun K hK => ?_) AllReadyH.nil
      go_simp
      refine gC.out.mono ?_
      rintro e wD ⟨v, rfl, ov, hBD⟩
      obtain ⟨A5, c5, hv, hc5, r5, _⟩ := ov.slice
      rw [HK.out] at hv
      subst hv
      have bD := bRd.below hBD bRd.lt
      have BD := Lib.hid (Bx.out.trans (hBD.mono Bx.out.size))
      have O2D := Lib.hid (O2x.out.below hBD)
      have gD := Lib.hid (copied_n (some ⟨f, 0, none⟩) df m q wD HQ.out (by omega) O2D.out.rd)
      have R5 := Lib.hid r5
      clear gC ov hc5 r5 hBD bRd O1x O2x
      refine hK.out _ _ (rng_of_blk bD) (fun hHeld => ?_)
      clear hK K
      try simp only [Act.put, List.setIfInBounds_toArray, List.set_cons_zero, List.set_cons_succ]
      refine wpAnyH_ready (rs := [10]) (by kernel_rfl) (by simp) ?_
      refine AllReadyH.cons rfl (fun K hK => ?_) AllReadyH.nil
      go_simp
      refine gD.out.mono ?_
      rintro e wE ⟨v, rfl, ov, hBE⟩
      obtain ⟨A6, c6, hv, hc6, r6, _⟩ := ov.slice
      rw [HQ.out] at hv
      subst hv
      have bE := bD.below hBE bD.lt
      have BE := Lib.hid (BD.out.trans (hBE.mono BD.out.size))
      have gE := Lib.hid (refMac_any A5 A6 c5 c6 n m k q wE HK.out HQ.out hn hm (R5.out.below hBE) r6 (HTB.out.below BE.out) (HTQ.out.below BE.out))
      rw [← HD3.out] at gE
      clear gD ov hc6 r6 hBE bD O2D R5
      refine hK.out _ _ (rng_of_blk bE) (fun hHeld => ?_)
      clear hK K
      try simp only [Act.put, List.setIfInBounds_toArray, List.set_cons_zero, List.set_cons_succ]
      refine wpAnyH_ready (rs := [11]) (by kernel_rfl) (by simp) ?_
      refine AllReadyH.cons rfl (fun K hK => ?_) AllReadyH.nil
      go_simp
      with_reducible refine gE.out.mono ?_
      rintro e wF ⟨rfl, hBF⟩
      have bF := bE.below hBF bE.lt
      have BF := Lib.hid (BE.out.trans (hBF.mono BE.out.size))
      have gF := Lib.hid (equal_any D3 D3 wF HND3.out HND3.out)
      rw [show decide (D3 = D3) = true from decide_eq_true rfl] at gF
      clear gE hBF bE
      refine hK.out _ _ (rng_of_blk bF) (fun hHeld => ?_)
      clear hK K
      try simp only [Act.put, List.setIfInBounds_toArray, List.set_cons_zero, List.set_cons_succ]
      refine wpAnyH_ready (rs := [12]) (by kernel_rfl) (by simp) ?_
      refine AllReadyH.cons rfl (fun K hK => ?_) AllReadyH.nil
      go_simp
      refine gF.out.mono ?_
      rintro e wG ⟨rfl, hBG⟩
      have bG := bF.below hBG bF.lt
      have BG := Lib.hid (BF.out.trans (hBG.mono BF.out.size))
      clear gF hBG bF
      refine hK.out _ _ (rng_of_blk bG) (fun hHeld => ?_)
      clear hK K
      try simp only [Act.put, List.setIfInBounds_toArray, List.set_cons_zero, List.set_cons_succ]
      refine take_on (i := 13) (some 4) (v := ?vr47) rfl rfl (by kernel_rfl) (by kernel_rfl) (by kernel_rfl) (fun _ _ _ h => h) (by rfl) ?hyr47 (by with_reducible exact hHeld) ?restr47
      case hyr47 => (intro wS hSw; (try dsimp only at hSw); go_simp; try with_reducible rfl)
      try simp only [Act.put, List.setIfInBounds_toArray, List.set_cons_zero, List.set_cons_succ]
      refine wpAnyH_done (by kernel_rfl) ?_ _
      refine NoPanic.normal ?_
      go_wp2
      go_ret
      exact ⟨rfl, BG.out⟩
end Go.Proofs.YtepikbmlhejobaaDoor
