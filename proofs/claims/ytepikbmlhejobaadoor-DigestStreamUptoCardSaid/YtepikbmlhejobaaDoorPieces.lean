/- DigestPieces: cut up in any way, the pieces give the whole's digest. -/
import Derived.Test.YtepikbmlhejobaaDoorShaPub
namespace Go.Proofs.YtepikbmlhejobaaDoor
open Go.RowKit
theorem copied_s (A : Option Addr) (c n : Nat) (l : List UInt8) (w : World) (hl : l.length = n) (hn : n ≤ 140737488355328) (h : Rd encB w A l) :
    Calls Tryd.prog 26 #[.slice A n c] w fun e w' => ∃ A' c', e = .returned (.slice A' n c') ∧ Rd encB w' A' l ∧ n ≤ c' ∧ c' ≤ 9223372036854775807 ∧ (∀ ad, A' = some ad → w.heap.size ≤ ad.block) ∧ Below w.heap.size w w' :=
  (copied_n A c n l w hl hn h).mono fun e w' ⟨v, he, ov, hB⟩ => by
    subst he
    rcases ov.form with ⟨e, e2⟩ | ⟨g, cap, cs, e, hg, _, hle, hm, _⟩
    · subst e2
      subst e
      subst hl
      exact ⟨none, 0, rfl, Rd.nil_, Nat.le_refl _, by omega, fun ad e => (by cases e), hB⟩
    · subst e
      subst hl
      unfold maxLen at hm
      exact ⟨_, cap, rfl, ov.rd, hle, hm, fun ad e => by cases e; exact hg, hB⟩
set_option maxRecDepth 20000 in
set_option maxHeartbeats 4000000 in
theorem pieces_any (A : Option Addr) (c n : Nat) (l : List UInt8) (A1 : Option Addr) (c1 n1 : Nat) (cuts : List Int) (w : World) (hn : l.length = n) (hn1 : cuts.length = n1) (hb : n ≤ 140737488351232) (hb1 : n1 ≤ 9223372036854775807) (hc : n ≤ c) (hcm : c ≤ 140737488351232)
    (h : Rd encB w A l) (h1 : Rd encI w A1 cuts) (hwf : ∀ x ∈ cuts, -9223372036854775808 ≤ x ∧ x ≤ 9223372036854775807) (hT : Rd enc32 w (some ⟨3, 0, none⟩) ksL) (hS : Rd enc32 w (some ⟨0, 0, none⟩) startS.list) :
    Calls Tryd.prog 12 #[.slice A n c, .slice A1 n1 c1] w fun e w' => e = .returned (.bool true) ∧ Below w.heap.size w w' := by
  have z1 := zeroA32
  have HP := Lib.hid h
  have HP1 := Lib.hid h1
  have HN := Lib.hid hn
  have HN1 := Lib.hid hn1
  have HT := Lib.hid hT
  have HS := Lib.hid hS
  have HW := Lib.hid hwf
  have h3 : 3 < w.heap.size := by
    obtain ⟨ad, e, hlt⟩ := hT.blk_lt (by intro e; cases e)
    cases e
    exact hlt
  clear hT hS h h1 hn hn1 hwf
  have g0 := Lib.hid (new_any ksL startS w HS.out)
  obtain ⟨H, hH⟩ : ∃ H, H = w.heap.size := ⟨_, rfl⟩
  rw [← hH] at g0
  have hwH : w.heap.size ≤ H := by omega
  have hH3 : H ≠ 3 := by omega
  have HHe := Lib.hid hH
  clear hH
  go_enter Tryd.func12, Tryd.ntmps12
  go_wp2_with fail
  with_reducible refine g0.out.mono ?_
  rintro e w1 ⟨rfl, hs1, hB1⟩
  have hB1' : Below w.heap.size w w1 := by rw [HHe.out] at hB1; exact hB1
  have g1 := Lib.hid (published_any w1 (HT.out.below hB1') (HS.out.below hB1'))
  clear g0 hB1
  go_wp2_with fail
  with_reducible refine g1.out.mono ?_
  rintro e w2 ⟨rfl, hB2⟩
  have hs2 := hs1.below hB2 hs1.lt
  have hB02 := hB1'.trans (hB2.mono hB1'.size)
  clear g1 hB2 hs1 hB1'
  go_wp2_with fail
  go_loopw [6, 7] (fun a i wr => ∃ j k : Nat, j ≤ n1 ∧ k ≤ n ∧ i = .int .i64 j ∧ a = .int .i64 k ∧ HashS wr H ksL startS (l.take k) k ∧ Below w.heap.size w wr) (fun _ i _ => n1 - (intOf i).toNat)
  case atStart => exact ⟨0, 0, by omega, by omega, rfl, rfl, hs2, hB02⟩
  case round =>
    obtain ⟨j, k, hj, hk, rfl, rfl, hs, hB⟩ := hrel
    clear hs2 hB02
    by_cases hgo : j < n1 ∧ k < n
    · obtain ⟨hj1, hk1⟩ := hgo
      have hj2 : (j : Int) < (n1 : Int) := by omega
      have hk2 : (k : Int) < (n : Int) := by omega
      obtain ⟨x, hx⟩ : ∃ x, cuts[j]? = some x := ⟨_, List.getElem?_eq_getElem (by rw [HN1.out]; exact hj1)⟩
      obtain ⟨ad, e, hcell⟩ := (HP1.out.below hB) j x hx
      subst e
      have hxw := HW.out x (List.mem_of_getElem? hx)
      clear hx
      have HB := Lib.hid hB
      have Hs := Lib.hid hs
      clear hB hs
      obtain ⟨r, hre⟩ : ∃ r, r = x.tmod 130 := ⟨_, rfl⟩
      have hr : -130 < r ∧ r < 130 := by
        have h1 := Int.natAbs_tmod x 130
        have h2 : x.natAbs % 130 < 130 := Nat.mod_lt _ (by decide)
        rw [← hre] at h1
        have h4 : r.natAbs < 130 := by rw [h1]; exact h2
        omega
      have hre' := hre.symm
      clear hre
      go_upto_if 38 with fail
      go_cut [8] (fun t8 wx => ∃ d : Nat, d ≤ 129 ∧ t8 = .int .i64 d ∧ wr = wx)
      case first =>
        by_cases hr0 : r < 0
        · go_wp2_with fail
          go_meet
          exact ⟨(-r).toNat, by omega, int_inj (by omega), rfl⟩
        · go_wp2_with fail
          go_meet
          exact ⟨r.toNat, by omega, int_inj (by omega), rfl⟩
      case rest =>
        obtain ⟨d0, hd0, rfl, rfl⟩ := hcut
        clear hr hre' hcell hxw r
        go_upto_if 46 with fail
        go_cut [8] (fun t8 wx => ∃ d : Nat, k + d ≤ n ∧ t8 = .int .i64 d ∧ wr = wx)
        case first =>
          by_cases hr0 : (n : Int) - (k : Int) < (d0 : Int)
          · go_wp2_with fail
            go_meet
            exact ⟨n - k, by omega, int_inj (by omega), rfl⟩
          · go_wp2_with fail
            go_meet
            exact ⟨d0, by omega, rfl, rfl⟩
        case rest =>
          obtain ⟨d, hd, rfl, rfl⟩ := hcut
          clear hd0
          obtain ⟨E, hE⟩ : ∃ E, E = k + d := ⟨_, rfl⟩
          have hkE : k ≤ E := by omega
          have hEn : E ≤ n := by omega
          have hkd : (k : Int) + (d : Int) = (E : Int) := by omega
          have HE := Lib.hid hE
          clear hE hd
          go_wp2_with fail
          obtain ⟨pc, hpc⟩ : ∃ pc, pc = (l.drop k).take (E - k) := ⟨_, rfl⟩
          have HPC := Lib.hid (show pc.length = E - k by rw [hpc, List.length_take, List.length_drop, HN.out]; omega)
          have HTE := Lib.hid (show l.take k ++ pc = l.take E by rw [hpc, ← List.take_add, show k + (E - k) = E by omega])
          have HLE := Lib.hid (show (l.take E).length = E by rw [List.length_take, HN.out]; omega)
          have rp : Rd encB wr (A.map fun x => x.add k) pc := by
            have := (HP.out.below HB.out).drop (k := k) (cap := c) (by rw [HN.out]; exact hc)
            rw [if_neg (by omega)] at this
            rw [hpc]
            exact this.take _
          have g2 := Lib.hid (copied_s (A.map fun x => x.add k) (c - k) (E - k) pc wr HPC.out (by omega) rp)
          clear hpc rp
          with_reducible refine g2.out.mono ?_
          rintro e w3 ⟨A3, c3, rfl, r3, hc3, hc3m, hbk, hB3⟩
          have hvb2 : pc ≠ [] → ∀ ad, A3 = some ad → ad.block ≠ H := fun _ ad e => by
            have := hbk ad e
            have := Hs.out.lt
            omega
          have hs3 := Hs.out.below hB3 Hs.out.lt
          have B3 := Lib.hid (HB.out.trans (hB3.mono HB.out.size))
          have g3 := Lib.hid (write_any ksL ksL_len startS H (l.take k) pc k A3 c3 w3 hs3 r3 hvb2 (by rw [HPC.out]; exact hc3) hc3m (by rw [HPC.out]; omega) (HT.out.below B3.out) hH3)
          rw [HTE.out, HPC.out, show k + (E - k) = E by omega] at g3
          clear g2 hvb2 hbk hc3 r3 hs3 hB3 hc3m
          go_wp2_with fail
          with_reducible refine g3.out.mono ?_
          rintro e w4 ⟨rfl, hs4, hC4⟩
          have B4 := Lib.hid (B3.out.trans (hC4.below B3.out.size (fun q i hq e => by omega)))
          have hs4' : HashS w4 H ksL startS (l.take E) (l.take E).length := by rw [HLE.out]; exact hs4
          have g4 := Lib.hid (sum_any ksL ksL_len startS H (l.take E) w4 hs4' (by rw [HLE.out]; omega) (HT.out.below B4.out))
          have Hs4 := Lib.hid hs4
          obtain ⟨D, hD⟩ : ∃ D, D = digestL ksL startS (l.take E) := ⟨_, rfl⟩
          have HD := Lib.hid hD
          have HND := Lib.hid (show D.length = 32 by rw [hD]; exact digestL_len _ _ _)
          rw [← hD] at g4
          clear g3 hs4 hs4' hC4 hD
          go_wp2_with fail
          with_reducible refine g4.out.mono ?_
          rintro e w5 ⟨rfl, hB5⟩
          have Hs5 := Lib.hid (Hs4.out.below hB5 Hs4.out.lt)
          have C5 := B4.out.trans (hB5.mono B4.out.size)
          obtain ⟨R1, hR1⟩ : ∃ R, R = w5.heap.size := ⟨_, rfl⟩
          have HR1 := Lib.hid hR1
          have lR1 : w.heap.size ≤ R1 := by rw [hR1]; exact C5.size
          have hHR1 : H < R1 := by rw [hR1]; exact Hs5.out.lt
          have q0 : Blk (w5.alloc (.cells (arr encB zero32) 36)) R1 36 (arr encB zero32) := by rw [HR1.out]; exact Blk.new w5 _ _
          have HB5 := Lib.hid (C5.alloc C5.size (.cells (arr encB zero32) 36))
          have Hs5a := Lib.hid (Hs5.out.below ((Below.refl _ w5).alloc (Nat.le_refl _) (.cells (arr encB zero32) 36)) Hs5.out.lt)
          clear hR1 hB5 C5 g4
          go_wp2_with (first
            | rw [← HR1.out]
            | ((with_reducible refine wpList_store_blk rfl 36 (.tmp 9) (.tmp 64) rfl R1 36 (arr encB zero32) (arr encB D) ?hb rfl rfl (arrSz HND.out) ?hl (arr_one encB_one _) ?_); (case hb => exact q0); (case hl => rw [arr_size, arr_size, zero32_len, HND.out]); intro v6 b6 hg6 hs6; clear hs6))
          have B6 := Lib.hid (below_only HB5.out hg6 HB5.out.size lR1)
          have Hs6 := Lib.hid (Hs5a.out.chg (F := fun q _ => q = R1) (Chg.of_row hg6 q0 b6 (by rw [arr_size, arr_size, zero32_len, HND.out]) (fun _ => rfl)) (fun i e => by omega))
          have r6 : Rd encB v6 A (l.take E) := (HP.out.below B6.out).take E
          have g5 := Lib.hid (copied_s A c E (l.take E) v6 HLE.out (by omega) r6)
          clear Hs5 Hs5a HB5 hg6 q0 r6
          with_reducible refine g5.out.mono ?_
          rintro e w7 ⟨A7, c7, rfl, r7, hc7, hc7m, _, hB7⟩
          have b7 := b6.below hB7 b6.lt
          have Hs7 := Lib.hid (Hs6.out.below hB7 Hs6.out.lt)
          have B7 := Lib.hid (B6.out.trans (hB7.mono B6.out.size))
          have g6 := Lib.hid (sum256_n ksL ksL_len startS A7 c7 E (l.take E) w7 HLE.out hc7 hc7m (by omega) r7 (HT.out.below B7.out) (HS.out.below B7.out))
          rw [← HD.out] at g6
          clear g5 hB7 r7 hc7 hc7m b6
          go_wp2_with fail
          with_reducible refine g6.out.mono ?_
          rintro e w8 ⟨rfl, hB8⟩
          have b8 := b7.below hB8 b7.lt
          have Hs8 := Lib.hid (Hs7.out.below hB8 Hs7.out.lt)
          have C8 := B7.out.trans (hB8.mono B7.out.size)
          obtain ⟨R2, hR2⟩ : ∃ R, R = w8.heap.size := ⟨_, rfl⟩
          have HR2 := Lib.hid hR2
          have lR2 : w.heap.size ≤ R2 := by rw [hR2]; exact C8.size
          have hHR2 : H < R2 := by rw [hR2]; exact Hs8.out.lt
          have hR12 : R1 < R2 := by rw [hR2]; exact b8.lt
          have q0 : Blk (w8.alloc (.cells (arr encB zero32) 36)) R2 36 (arr encB zero32) := by rw [HR2.out]; exact Blk.new w8 _ _
          have HB8 := Lib.hid (C8.alloc C8.size (.cells (arr encB zero32) 36))
          have Hs8a := Lib.hid (Hs8.out.below ((Below.refl _ w8).alloc (Nat.le_refl _) (.cells (arr encB zero32) 36)) Hs8.out.lt)
          have b8a := b8.alloc (.cells (arr encB zero32) 36)
          clear hR2 hB8 C8 g6 b7 b8
          go_wp2_with (first
            | rw [← HR2.out]
            | ((with_reducible refine wpList_store_blk rfl 36 (.tmp 10) (.tmp 69) rfl R2 36 (arr encB zero32) (arr encB D) ?hb rfl rfl (arrSz HND.out) ?hl (arr_one encB_one _) ?_); (case hb => exact q0); (case hl => rw [arr_size, arr_size, zero32_len, HND.out]); intro v9 b9 hg9 hs9; clear hs9; have p9 := b8a.grown hg9 (by intro e; cases e; omega))
            | ((with_reducible refine wpList_load_blk rfl 36 (.tmp 9) rfl R1 36 (arr encB D) ?hb rfl arrTy rfl (arrSz HND.out) ?_); (case hb => exact p9))
            | ((with_reducible refine wpList_load_blk rfl 36 (.tmp 10) rfl R2 36 (arr encB D) ?hb rfl arrTy rfl (arrSz HND.out) ?_); (case hb => exact b9)))
          have B9 := Lib.hid (below_only HB8.out hg9 HB8.out.size lR2)
          have Hs9 := Lib.hid (Hs8a.out.chg (F := fun q _ => q = R2) (Chg.of_row hg9 q0 b9 (by rw [arr_size, arr_size, zero32_len, HND.out]) (fun _ => rfl)) (fun i e => by omega))
          have g7 := Lib.hid (equal_any D D v9 HND.out HND.out)
          rw [show decide (D = D) = true from decide_eq_true rfl] at g7
          clear Hs8 Hs8a HB8 hg9 q0 b8a p9 b9
          with_reducible refine g7.out.mono ?_
          rintro e w10 ⟨rfl, hB10⟩
          have Hs10 := Lib.hid (Hs9.out.below hB10 Hs9.out.lt)
          have B10 := Lib.hid (B9.out.trans (hB10.mono B9.out.size))
          have g8 := Lib.hid (count_any ksL startS H (l.take E) E w10 Hs10.out)
          clear g7 hB10
          go_wp2_with fail
          with_reducible refine g8.out.mono ?_
          rintro e w11 ⟨rfl, rfl⟩
          go_wp2_with fail
          go_roundw
          case rel => exact ⟨j + 1, E, by omega, hEn, by go_num, rfl, Hs10.out, B10.out⟩
          case measure => simp [intOf]; omega
    · by_cases hj1 : j < n1
      · have hj2 : (j : Int) < (n1 : Int) := by omega
        have hk2 : ¬ (k : Int) < (n : Int) := by omega
        have HB := Lib.hid hB
        have Hs := Lib.hid hs
        clear hB hs
        by_cases hck : c = k
        · subst hck
          have HPC := Lib.hid (show (l.drop c).length = 0 by rw [List.length_drop, HN.out]; try omega)
          have HTE := Lib.hid (show l.take c ++ l.drop c = l from List.take_append_drop _ _)
          have rp : Rd encB wr A (l.drop c) := by
            have := (HP.out.below HB.out).drop (k := c) (cap := c) (by rw [HN.out]; exact hc)
            rw [if_pos rfl] at this
            exact this
          have g2 := Lib.hid (copied_s A 0 (0) (l.drop c) wr HPC.out (by omega) rp)
          clear rp
          go_wp2_with fail
          with_reducible refine g2.out.mono ?_
          rintro e w3 ⟨A3, c3, rfl, r3, hc3, hc3m, hbk, hB3⟩
          have hvb2 : l.drop c ≠ [] → ∀ ad, A3 = some ad → ad.block ≠ H := fun _ ad e => by
            have := hbk ad e
            have := Hs.out.lt
            omega
          have hs3 := Hs.out.below hB3 Hs.out.lt
          have B3 := Lib.hid (HB.out.trans (hB3.mono HB.out.size))
          have g3 := Lib.hid (write_any ksL ksL_len startS H (l.take c) (l.drop c) c A3 c3 w3 hs3 r3 hvb2 (by rw [HPC.out]; exact hc3) hc3m (by rw [HPC.out]; omega) (HT.out.below B3.out) hH3)
          rw [HTE.out, HPC.out, show c + (0) = n by omega] at g3
          clear g2 hvb2 hbk hc3 r3 hs3 hB3 hc3m
          go_wp2_with fail
          with_reducible refine g3.out.mono ?_
          rintro e w4 ⟨rfl, hs4, hC4⟩
          have B4 := Lib.hid (B3.out.trans (hC4.below B3.out.size (fun q i hq e => by omega)))
          have hs4' : HashS w4 H ksL startS l l.length := by rw [HN.out]; exact hs4
          have g4 := Lib.hid (sum_any ksL ksL_len startS H l w4 hs4' (by rw [HN.out]; omega) (HT.out.below B4.out))
          have Hs4 := Lib.hid hs4
          obtain ⟨D, hD⟩ : ∃ D, D = digestL ksL startS l := ⟨_, rfl⟩
          have HD := Lib.hid hD
          have HND := Lib.hid (show D.length = 32 by rw [hD]; exact digestL_len _ _ _)
          rw [← hD] at g4
          clear g3 hs4 hs4' hC4 hD
          go_wp2_with fail
          with_reducible refine g4.out.mono ?_
          rintro e w5 ⟨rfl, hB5⟩
          have Hs5 := Lib.hid (Hs4.out.below hB5 Hs4.out.lt)
          have C5 := B4.out.trans (hB5.mono B4.out.size)
          obtain ⟨R1, hR1⟩ : ∃ R, R = w5.heap.size := ⟨_, rfl⟩
          have HR1 := Lib.hid hR1
          have lR1 : w.heap.size ≤ R1 := by rw [hR1]; exact C5.size
          have hHR1 : H < R1 := by rw [hR1]; exact Hs5.out.lt
          have q0 : Blk (w5.alloc (.cells (arr encB zero32) 36)) R1 36 (arr encB zero32) := by rw [HR1.out]; exact Blk.new w5 _ _
          have HB5 := Lib.hid (C5.alloc C5.size (.cells (arr encB zero32) 36))
          have Hs5a := Lib.hid (Hs5.out.below ((Below.refl _ w5).alloc (Nat.le_refl _) (.cells (arr encB zero32) 36)) Hs5.out.lt)
          clear hR1 hB5 C5 g4
          go_wp2_with (first
            | rw [← HR1.out]
            | ((with_reducible refine wpList_store_blk rfl 36 (.tmp 11) (.tmp 88) rfl R1 36 (arr encB zero32) (arr encB D) ?hb rfl rfl (arrSz HND.out) ?hl (arr_one encB_one _) ?_); (case hb => exact q0); (case hl => rw [arr_size, arr_size, zero32_len, HND.out]); intro v6 b6 hg6 hs6; clear hs6))
          have B6 := Lib.hid (below_only HB5.out hg6 HB5.out.size lR1)
          have Hs6 := Lib.hid (Hs5a.out.chg (F := fun q _ => q = R1) (Chg.of_row hg6 q0 b6 (by rw [arr_size, arr_size, zero32_len, HND.out]) (fun _ => rfl)) (fun i e => by omega))
          have g5 := Lib.hid (copied_s A c n l v6 HN.out (by omega) (HP.out.below B6.out))
          clear Hs5 Hs5a HB5 hg6 q0
          with_reducible refine g5.out.mono ?_
          rintro e w7 ⟨A7, c7, rfl, r7, hc7, hc7m, _, hB7⟩
          have b7 := b6.below hB7 b6.lt
          have Hs7 := Lib.hid (Hs6.out.below hB7 Hs6.out.lt)
          have B7 := Lib.hid (B6.out.trans (hB7.mono B6.out.size))
          have g6 := Lib.hid (sum256_n ksL ksL_len startS A7 c7 n l w7 HN.out hc7 hc7m (by omega) r7 (HT.out.below B7.out) (HS.out.below B7.out))
          rw [← HD.out] at g6
          clear g5 hB7 r7 hc7 hc7m b6
          go_wp2_with fail
          with_reducible refine g6.out.mono ?_
          rintro e w8 ⟨rfl, hB8⟩
          have b8 := b7.below hB8 b7.lt
          have Hs8 := Lib.hid (Hs7.out.below hB8 Hs7.out.lt)
          have C8 := B7.out.trans (hB8.mono B7.out.size)
          obtain ⟨R2, hR2⟩ : ∃ R, R = w8.heap.size := ⟨_, rfl⟩
          have HR2 := Lib.hid hR2
          have lR2 : w.heap.size ≤ R2 := by rw [hR2]; exact C8.size
          have hHR2 : H < R2 := by rw [hR2]; exact Hs8.out.lt
          have hR12 : R1 < R2 := by rw [hR2]; exact b8.lt
          have q0 : Blk (w8.alloc (.cells (arr encB zero32) 36)) R2 36 (arr encB zero32) := by rw [HR2.out]; exact Blk.new w8 _ _
          have HB8 := Lib.hid (C8.alloc C8.size (.cells (arr encB zero32) 36))
          have Hs8a := Lib.hid (Hs8.out.below ((Below.refl _ w8).alloc (Nat.le_refl _) (.cells (arr encB zero32) 36)) Hs8.out.lt)
          have b8a := b8.alloc (.cells (arr encB zero32) 36)
          clear hR2 hB8 C8 g6 b7 b8
          go_wp2_with (first
            | rw [← HR2.out]
            | ((with_reducible refine wpList_store_blk rfl 36 (.tmp 12) (.tmp 91) rfl R2 36 (arr encB zero32) (arr encB D) ?hb rfl rfl (arrSz HND.out) ?hl (arr_one encB_one _) ?_); (case hb => exact q0); (case hl => rw [arr_size, arr_size, zero32_len, HND.out]); intro v9 b9 hg9 hs9; clear hs9; have p9 := b8a.grown hg9 (by intro e; cases e; omega))
            | ((with_reducible refine wpList_load_blk rfl 36 (.tmp 11) rfl R1 36 (arr encB D) ?hb rfl arrTy rfl (arrSz HND.out) ?_); (case hb => exact p9))
            | ((with_reducible refine wpList_load_blk rfl 36 (.tmp 12) rfl R2 36 (arr encB D) ?hb rfl arrTy rfl (arrSz HND.out) ?_); (case hb => exact b9)))
          have B9 := Lib.hid (below_only HB8.out hg9 HB8.out.size lR2)
          have Hs9 := Lib.hid (Hs8a.out.chg (F := fun q _ => q = R2) (Chg.of_row hg9 q0 b9 (by rw [arr_size, arr_size, zero32_len, HND.out]) (fun _ => rfl)) (fun i e => by omega))
          have g7 := Lib.hid (equal_any D D v9 HND.out HND.out)
          rw [show decide (D = D) = true from decide_eq_true rfl] at g7
          clear Hs8 Hs8a HB8 hg9 q0 b8a p9 b9
          with_reducible refine g7.out.mono ?_
          rintro e w10 ⟨rfl, hB10⟩
          have Hs10 := Lib.hid (Hs9.out.below hB10 Hs9.out.lt)
          have B10 := Lib.hid (B9.out.trans (hB10.mono B9.out.size))
          have g8 := Lib.hid (count_any ksL startS H l n w10 Hs10.out)
          clear g7 hB10
          go_wp2_with fail
          with_reducible refine g8.out.mono ?_
          rintro e w11 ⟨rfl, rfl⟩
          go_wp2_with fail
          go_ret
          exact ⟨rfl, B10.out⟩
        · have HPC := Lib.hid (show (l.drop k).length = n - k by rw [List.length_drop, HN.out]; try omega)
          have HTE := Lib.hid (show l.take k ++ l.drop k = l from List.take_append_drop _ _)
          have rp : Rd encB wr (A.map fun x => x.add k) (l.drop k) := by
            have := (HP.out.below HB.out).drop (k := k) (cap := c) (by rw [HN.out]; exact hc)
            rw [if_neg hck] at this
            exact this
          have g2 := Lib.hid (copied_s (A.map fun x => x.add k) (c - k) (n - k) (l.drop k) wr HPC.out (by omega) rp)
          clear rp
          go_wp2_with fail
          with_reducible refine g2.out.mono ?_
          rintro e w3 ⟨A3, c3, rfl, r3, hc3, hc3m, hbk, hB3⟩
          have hvb2 : l.drop k ≠ [] → ∀ ad, A3 = some ad → ad.block ≠ H := fun _ ad e => by
            have := hbk ad e
            have := Hs.out.lt
            omega
          have hs3 := Hs.out.below hB3 Hs.out.lt
          have B3 := Lib.hid (HB.out.trans (hB3.mono HB.out.size))
          have g3 := Lib.hid (write_any ksL ksL_len startS H (l.take k) (l.drop k) k A3 c3 w3 hs3 r3 hvb2 (by rw [HPC.out]; exact hc3) hc3m (by rw [HPC.out]; omega) (HT.out.below B3.out) hH3)
          rw [HTE.out, HPC.out, show k + (n - k) = n by omega] at g3
          clear g2 hvb2 hbk hc3 r3 hs3 hB3 hc3m
          go_wp2_with fail
          with_reducible refine g3.out.mono ?_
          rintro e w4 ⟨rfl, hs4, hC4⟩
          have B4 := Lib.hid (B3.out.trans (hC4.below B3.out.size (fun q i hq e => by omega)))
          have hs4' : HashS w4 H ksL startS l l.length := by rw [HN.out]; exact hs4
          have g4 := Lib.hid (sum_any ksL ksL_len startS H l w4 hs4' (by rw [HN.out]; omega) (HT.out.below B4.out))
          have Hs4 := Lib.hid hs4
          obtain ⟨D, hD⟩ : ∃ D, D = digestL ksL startS l := ⟨_, rfl⟩
          have HD := Lib.hid hD
          have HND := Lib.hid (show D.length = 32 by rw [hD]; exact digestL_len _ _ _)
          rw [← hD] at g4
          clear g3 hs4 hs4' hC4 hD
          go_wp2_with fail
          with_reducible refine g4.out.mono ?_
          rintro e w5 ⟨rfl, hB5⟩
          have Hs5 := Lib.hid (Hs4.out.below hB5 Hs4.out.lt)
          have C5 := B4.out.trans (hB5.mono B4.out.size)
          obtain ⟨R1, hR1⟩ : ∃ R, R = w5.heap.size := ⟨_, rfl⟩
          have HR1 := Lib.hid hR1
          have lR1 : w.heap.size ≤ R1 := by rw [hR1]; exact C5.size
          have hHR1 : H < R1 := by rw [hR1]; exact Hs5.out.lt
          have q0 : Blk (w5.alloc (.cells (arr encB zero32) 36)) R1 36 (arr encB zero32) := by rw [HR1.out]; exact Blk.new w5 _ _
          have HB5 := Lib.hid (C5.alloc C5.size (.cells (arr encB zero32) 36))
          have Hs5a := Lib.hid (Hs5.out.below ((Below.refl _ w5).alloc (Nat.le_refl _) (.cells (arr encB zero32) 36)) Hs5.out.lt)
          clear hR1 hB5 C5 g4
          go_wp2_with (first
            | rw [← HR1.out]
            | ((with_reducible refine wpList_store_blk rfl 36 (.tmp 11) (.tmp 88) rfl R1 36 (arr encB zero32) (arr encB D) ?hb rfl rfl (arrSz HND.out) ?hl (arr_one encB_one _) ?_); (case hb => exact q0); (case hl => rw [arr_size, arr_size, zero32_len, HND.out]); intro v6 b6 hg6 hs6; clear hs6))
          have B6 := Lib.hid (below_only HB5.out hg6 HB5.out.size lR1)
          have Hs6 := Lib.hid (Hs5a.out.chg (F := fun q _ => q = R1) (Chg.of_row hg6 q0 b6 (by rw [arr_size, arr_size, zero32_len, HND.out]) (fun _ => rfl)) (fun i e => by omega))
          have g5 := Lib.hid (copied_s A c n l v6 HN.out (by omega) (HP.out.below B6.out))
          clear Hs5 Hs5a HB5 hg6 q0
          with_reducible refine g5.out.mono ?_
          rintro e w7 ⟨A7, c7, rfl, r7, hc7, hc7m, _, hB7⟩
          have b7 := b6.below hB7 b6.lt
          have Hs7 := Lib.hid (Hs6.out.below hB7 Hs6.out.lt)
          have B7 := Lib.hid (B6.out.trans (hB7.mono B6.out.size))
          have g6 := Lib.hid (sum256_n ksL ksL_len startS A7 c7 n l w7 HN.out hc7 hc7m (by omega) r7 (HT.out.below B7.out) (HS.out.below B7.out))
          rw [← HD.out] at g6
          clear g5 hB7 r7 hc7 hc7m b6
          go_wp2_with fail
          with_reducible refine g6.out.mono ?_
          rintro e w8 ⟨rfl, hB8⟩
          have b8 := b7.below hB8 b7.lt
          have Hs8 := Lib.hid (Hs7.out.below hB8 Hs7.out.lt)
          have C8 := B7.out.trans (hB8.mono B7.out.size)
          obtain ⟨R2, hR2⟩ : ∃ R, R = w8.heap.size := ⟨_, rfl⟩
          have HR2 := Lib.hid hR2
          have lR2 : w.heap.size ≤ R2 := by rw [hR2]; exact C8.size
          have hHR2 : H < R2 := by rw [hR2]; exact Hs8.out.lt
          have hR12 : R1 < R2 := by rw [hR2]; exact b8.lt
          have q0 : Blk (w8.alloc (.cells (arr encB zero32) 36)) R2 36 (arr encB zero32) := by rw [HR2.out]; exact Blk.new w8 _ _
          have HB8 := Lib.hid (C8.alloc C8.size (.cells (arr encB zero32) 36))
          have Hs8a := Lib.hid (Hs8.out.below ((Below.refl _ w8).alloc (Nat.le_refl _) (.cells (arr encB zero32) 36)) Hs8.out.lt)
          have b8a := b8.alloc (.cells (arr encB zero32) 36)
          clear hR2 hB8 C8 g6 b7 b8
          go_wp2_with (first
            | rw [← HR2.out]
            | ((with_reducible refine wpList_store_blk rfl 36 (.tmp 12) (.tmp 91) rfl R2 36 (arr encB zero32) (arr encB D) ?hb rfl rfl (arrSz HND.out) ?hl (arr_one encB_one _) ?_); (case hb => exact q0); (case hl => rw [arr_size, arr_size, zero32_len, HND.out]); intro v9 b9 hg9 hs9; clear hs9; have p9 := b8a.grown hg9 (by intro e; cases e; omega))
            | ((with_reducible refine wpList_load_blk rfl 36 (.tmp 11) rfl R1 36 (arr encB D) ?hb rfl arrTy rfl (arrSz HND.out) ?_); (case hb => exact p9))
            | ((with_reducible refine wpList_load_blk rfl 36 (.tmp 12) rfl R2 36 (arr encB D) ?hb rfl arrTy rfl (arrSz HND.out) ?_); (case hb => exact b9)))
          have B9 := Lib.hid (below_only HB8.out hg9 HB8.out.size lR2)
          have Hs9 := Lib.hid (Hs8a.out.chg (F := fun q _ => q = R2) (Chg.of_row hg9 q0 b9 (by rw [arr_size, arr_size, zero32_len, HND.out]) (fun _ => rfl)) (fun i e => by omega))
          have g7 := Lib.hid (equal_any D D v9 HND.out HND.out)
          rw [show decide (D = D) = true from decide_eq_true rfl] at g7
          clear Hs8 Hs8a HB8 hg9 q0 b8a p9 b9
          with_reducible refine g7.out.mono ?_
          rintro e w10 ⟨rfl, hB10⟩
          have Hs10 := Lib.hid (Hs9.out.below hB10 Hs9.out.lt)
          have B10 := Lib.hid (B9.out.trans (hB10.mono B9.out.size))
          have g8 := Lib.hid (count_any ksL startS H l n w10 Hs10.out)
          clear g7 hB10
          go_wp2_with fail
          with_reducible refine g8.out.mono ?_
          rintro e w11 ⟨rfl, rfl⟩
          go_wp2_with fail
          go_ret
          exact ⟨rfl, B10.out⟩
      · have hj2 : ¬ (j : Int) < (n1 : Int) := by omega
        have HB := Lib.hid hB
        have Hs := Lib.hid hs
        clear hB hs
        by_cases hck : c = k
        · subst hck
          have HPC := Lib.hid (show (l.drop c).length = 0 by rw [List.length_drop, HN.out]; try omega)
          have HTE := Lib.hid (show l.take c ++ l.drop c = l from List.take_append_drop _ _)
          have rp : Rd encB wr A (l.drop c) := by
            have := (HP.out.below HB.out).drop (k := c) (cap := c) (by rw [HN.out]; exact hc)
            rw [if_pos rfl] at this
            exact this
          have g2 := Lib.hid (copied_s A 0 (0) (l.drop c) wr HPC.out (by omega) rp)
          clear rp
          go_wp2_with fail
          with_reducible refine g2.out.mono ?_
          rintro e w3 ⟨A3, c3, rfl, r3, hc3, hc3m, hbk, hB3⟩
          have hvb2 : l.drop c ≠ [] → ∀ ad, A3 = some ad → ad.block ≠ H := fun _ ad e => by
            have := hbk ad e
            have := Hs.out.lt
            omega
          have hs3 := Hs.out.below hB3 Hs.out.lt
          have B3 := Lib.hid (HB.out.trans (hB3.mono HB.out.size))
          have g3 := Lib.hid (write_any ksL ksL_len startS H (l.take c) (l.drop c) c A3 c3 w3 hs3 r3 hvb2 (by rw [HPC.out]; exact hc3) hc3m (by rw [HPC.out]; omega) (HT.out.below B3.out) hH3)
          rw [HTE.out, HPC.out, show c + (0) = n by omega] at g3
          clear g2 hvb2 hbk hc3 r3 hs3 hB3 hc3m
          go_wp2_with fail
          with_reducible refine g3.out.mono ?_
          rintro e w4 ⟨rfl, hs4, hC4⟩
          have B4 := Lib.hid (B3.out.trans (hC4.below B3.out.size (fun q i hq e => by omega)))
          have hs4' : HashS w4 H ksL startS l l.length := by rw [HN.out]; exact hs4
          have g4 := Lib.hid (sum_any ksL ksL_len startS H l w4 hs4' (by rw [HN.out]; omega) (HT.out.below B4.out))
          have Hs4 := Lib.hid hs4
          obtain ⟨D, hD⟩ : ∃ D, D = digestL ksL startS l := ⟨_, rfl⟩
          have HD := Lib.hid hD
          have HND := Lib.hid (show D.length = 32 by rw [hD]; exact digestL_len _ _ _)
          rw [← hD] at g4
          clear g3 hs4 hs4' hC4 hD
          go_wp2_with fail
          with_reducible refine g4.out.mono ?_
          rintro e w5 ⟨rfl, hB5⟩
          have Hs5 := Lib.hid (Hs4.out.below hB5 Hs4.out.lt)
          have C5 := B4.out.trans (hB5.mono B4.out.size)
          obtain ⟨R1, hR1⟩ : ∃ R, R = w5.heap.size := ⟨_, rfl⟩
          have HR1 := Lib.hid hR1
          have lR1 : w.heap.size ≤ R1 := by rw [hR1]; exact C5.size
          have hHR1 : H < R1 := by rw [hR1]; exact Hs5.out.lt
          have q0 : Blk (w5.alloc (.cells (arr encB zero32) 36)) R1 36 (arr encB zero32) := by rw [HR1.out]; exact Blk.new w5 _ _
          have HB5 := Lib.hid (C5.alloc C5.size (.cells (arr encB zero32) 36))
          have Hs5a := Lib.hid (Hs5.out.below ((Below.refl _ w5).alloc (Nat.le_refl _) (.cells (arr encB zero32) 36)) Hs5.out.lt)
          clear hR1 hB5 C5 g4
          go_wp2_with (first
            | rw [← HR1.out]
            | ((with_reducible refine wpList_store_blk rfl 36 (.tmp 11) (.tmp 88) rfl R1 36 (arr encB zero32) (arr encB D) ?hb rfl rfl (arrSz HND.out) ?hl (arr_one encB_one _) ?_); (case hb => exact q0); (case hl => rw [arr_size, arr_size, zero32_len, HND.out]); intro v6 b6 hg6 hs6; clear hs6))
          have B6 := Lib.hid (below_only HB5.out hg6 HB5.out.size lR1)
          have Hs6 := Lib.hid (Hs5a.out.chg (F := fun q _ => q = R1) (Chg.of_row hg6 q0 b6 (by rw [arr_size, arr_size, zero32_len, HND.out]) (fun _ => rfl)) (fun i e => by omega))
          have g5 := Lib.hid (copied_s A c n l v6 HN.out (by omega) (HP.out.below B6.out))
          clear Hs5 Hs5a HB5 hg6 q0
          with_reducible refine g5.out.mono ?_
          rintro e w7 ⟨A7, c7, rfl, r7, hc7, hc7m, _, hB7⟩
          have b7 := b6.below hB7 b6.lt
          have Hs7 := Lib.hid (Hs6.out.below hB7 Hs6.out.lt)
          have B7 := Lib.hid (B6.out.trans (hB7.mono B6.out.size))
          have g6 := Lib.hid (sum256_n ksL ksL_len startS A7 c7 n l w7 HN.out hc7 hc7m (by omega) r7 (HT.out.below B7.out) (HS.out.below B7.out))
          rw [← HD.out] at g6
          clear g5 hB7 r7 hc7 hc7m b6
          go_wp2_with fail
          with_reducible refine g6.out.mono ?_
          rintro e w8 ⟨rfl, hB8⟩
          have b8 := b7.below hB8 b7.lt
          have Hs8 := Lib.hid (Hs7.out.below hB8 Hs7.out.lt)
          have C8 := B7.out.trans (hB8.mono B7.out.size)
          obtain ⟨R2, hR2⟩ : ∃ R, R = w8.heap.size := ⟨_, rfl⟩
          have HR2 := Lib.hid hR2
          have lR2 : w.heap.size ≤ R2 := by rw [hR2]; exact C8.size
          have hHR2 : H < R2 := by rw [hR2]; exact Hs8.out.lt
          have hR12 : R1 < R2 := by rw [hR2]; exact b8.lt
          have q0 : Blk (w8.alloc (.cells (arr encB zero32) 36)) R2 36 (arr encB zero32) := by rw [HR2.out]; exact Blk.new w8 _ _
          have HB8 := Lib.hid (C8.alloc C8.size (.cells (arr encB zero32) 36))
          have Hs8a := Lib.hid (Hs8.out.below ((Below.refl _ w8).alloc (Nat.le_refl _) (.cells (arr encB zero32) 36)) Hs8.out.lt)
          have b8a := b8.alloc (.cells (arr encB zero32) 36)
          clear hR2 hB8 C8 g6 b7 b8
          go_wp2_with (first
            | rw [← HR2.out]
            | ((with_reducible refine wpList_store_blk rfl 36 (.tmp 12) (.tmp 91) rfl R2 36 (arr encB zero32) (arr encB D) ?hb rfl rfl (arrSz HND.out) ?hl (arr_one encB_one _) ?_); (case hb => exact q0); (case hl => rw [arr_size, arr_size, zero32_len, HND.out]); intro v9 b9 hg9 hs9; clear hs9; have p9 := b8a.grown hg9 (by intro e; cases e; omega))
            | ((with_reducible refine wpList_load_blk rfl 36 (.tmp 11) rfl R1 36 (arr encB D) ?hb rfl arrTy rfl (arrSz HND.out) ?_); (case hb => exact p9))
            | ((with_reducible refine wpList_load_blk rfl 36 (.tmp 12) rfl R2 36 (arr encB D) ?hb rfl arrTy rfl (arrSz HND.out) ?_); (case hb => exact b9)))
          have B9 := Lib.hid (below_only HB8.out hg9 HB8.out.size lR2)
          have Hs9 := Lib.hid (Hs8a.out.chg (F := fun q _ => q = R2) (Chg.of_row hg9 q0 b9 (by rw [arr_size, arr_size, zero32_len, HND.out]) (fun _ => rfl)) (fun i e => by omega))
          have g7 := Lib.hid (equal_any D D v9 HND.out HND.out)
          rw [show decide (D = D) = true from decide_eq_true rfl] at g7
          clear Hs8 Hs8a HB8 hg9 q0 b8a p9 b9
          with_reducible refine g7.out.mono ?_
          rintro e w10 ⟨rfl, hB10⟩
          have Hs10 := Lib.hid (Hs9.out.below hB10 Hs9.out.lt)
          have B10 := Lib.hid (B9.out.trans (hB10.mono B9.out.size))
          have g8 := Lib.hid (count_any ksL startS H l n w10 Hs10.out)
          clear g7 hB10
          go_wp2_with fail
          with_reducible refine g8.out.mono ?_
          rintro e w11 ⟨rfl, rfl⟩
          go_wp2_with fail
          go_ret
          exact ⟨rfl, B10.out⟩
        · have HPC := Lib.hid (show (l.drop k).length = n - k by rw [List.length_drop, HN.out]; try omega)
          have HTE := Lib.hid (show l.take k ++ l.drop k = l from List.take_append_drop _ _)
          have rp : Rd encB wr (A.map fun x => x.add k) (l.drop k) := by
            have := (HP.out.below HB.out).drop (k := k) (cap := c) (by rw [HN.out]; exact hc)
            rw [if_neg hck] at this
            exact this
          have g2 := Lib.hid (copied_s (A.map fun x => x.add k) (c - k) (n - k) (l.drop k) wr HPC.out (by omega) rp)
          clear rp
          go_wp2_with fail
          with_reducible refine g2.out.mono ?_
          rintro e w3 ⟨A3, c3, rfl, r3, hc3, hc3m, hbk, hB3⟩
          have hvb2 : l.drop k ≠ [] → ∀ ad, A3 = some ad → ad.block ≠ H := fun _ ad e => by
            have := hbk ad e
            have := Hs.out.lt
            omega
          have hs3 := Hs.out.below hB3 Hs.out.lt
          have B3 := Lib.hid (HB.out.trans (hB3.mono HB.out.size))
          have g3 := Lib.hid (write_any ksL ksL_len startS H (l.take k) (l.drop k) k A3 c3 w3 hs3 r3 hvb2 (by rw [HPC.out]; exact hc3) hc3m (by rw [HPC.out]; omega) (HT.out.below B3.out) hH3)
          rw [HTE.out, HPC.out, show k + (n - k) = n by omega] at g3
          clear g2 hvb2 hbk hc3 r3 hs3 hB3 hc3m
          go_wp2_with fail
          with_reducible refine g3.out.mono ?_
          rintro e w4 ⟨rfl, hs4, hC4⟩
          have B4 := Lib.hid (B3.out.trans (hC4.below B3.out.size (fun q i hq e => by omega)))
          have hs4' : HashS w4 H ksL startS l l.length := by rw [HN.out]; exact hs4
          have g4 := Lib.hid (sum_any ksL ksL_len startS H l w4 hs4' (by rw [HN.out]; omega) (HT.out.below B4.out))
          have Hs4 := Lib.hid hs4
          obtain ⟨D, hD⟩ : ∃ D, D = digestL ksL startS l := ⟨_, rfl⟩
          have HD := Lib.hid hD
          have HND := Lib.hid (show D.length = 32 by rw [hD]; exact digestL_len _ _ _)
          rw [← hD] at g4
          clear g3 hs4 hs4' hC4 hD
          go_wp2_with fail
          with_reducible refine g4.out.mono ?_
          rintro e w5 ⟨rfl, hB5⟩
          have Hs5 := Lib.hid (Hs4.out.below hB5 Hs4.out.lt)
          have C5 := B4.out.trans (hB5.mono B4.out.size)
          obtain ⟨R1, hR1⟩ : ∃ R, R = w5.heap.size := ⟨_, rfl⟩
          have HR1 := Lib.hid hR1
          have lR1 : w.heap.size ≤ R1 := by rw [hR1]; exact C5.size
          have hHR1 : H < R1 := by rw [hR1]; exact Hs5.out.lt
          have q0 : Blk (w5.alloc (.cells (arr encB zero32) 36)) R1 36 (arr encB zero32) := by rw [HR1.out]; exact Blk.new w5 _ _
          have HB5 := Lib.hid (C5.alloc C5.size (.cells (arr encB zero32) 36))
          have Hs5a := Lib.hid (Hs5.out.below ((Below.refl _ w5).alloc (Nat.le_refl _) (.cells (arr encB zero32) 36)) Hs5.out.lt)
          clear hR1 hB5 C5 g4
          go_wp2_with (first
            | rw [← HR1.out]
            | ((with_reducible refine wpList_store_blk rfl 36 (.tmp 11) (.tmp 88) rfl R1 36 (arr encB zero32) (arr encB D) ?hb rfl rfl (arrSz HND.out) ?hl (arr_one encB_one _) ?_); (case hb => exact q0); (case hl => rw [arr_size, arr_size, zero32_len, HND.out]); intro v6 b6 hg6 hs6; clear hs6))
          have B6 := Lib.hid (below_only HB5.out hg6 HB5.out.size lR1)
          have Hs6 := Lib.hid (Hs5a.out.chg (F := fun q _ => q = R1) (Chg.of_row hg6 q0 b6 (by rw [arr_size, arr_size, zero32_len, HND.out]) (fun _ => rfl)) (fun i e => by omega))
          have g5 := Lib.hid (copied_s A c n l v6 HN.out (by omega) (HP.out.below B6.out))
          clear Hs5 Hs5a HB5 hg6 q0
          with_reducible refine g5.out.mono ?_
          rintro e w7 ⟨A7, c7, rfl, r7, hc7, hc7m, _, hB7⟩
          have b7 := b6.below hB7 b6.lt
          have Hs7 := Lib.hid (Hs6.out.below hB7 Hs6.out.lt)
          have B7 := Lib.hid (B6.out.trans (hB7.mono B6.out.size))
          have g6 := Lib.hid (sum256_n ksL ksL_len startS A7 c7 n l w7 HN.out hc7 hc7m (by omega) r7 (HT.out.below B7.out) (HS.out.below B7.out))
          rw [← HD.out] at g6
          clear g5 hB7 r7 hc7 hc7m b6
          go_wp2_with fail
          with_reducible refine g6.out.mono ?_
          rintro e w8 ⟨rfl, hB8⟩
          have b8 := b7.below hB8 b7.lt
          have Hs8 := Lib.hid (Hs7.out.below hB8 Hs7.out.lt)
          have C8 := B7.out.trans (hB8.mono B7.out.size)
          obtain ⟨R2, hR2⟩ : ∃ R, R = w8.heap.size := ⟨_, rfl⟩
          have HR2 := Lib.hid hR2
          have lR2 : w.heap.size ≤ R2 := by rw [hR2]; exact C8.size
          have hHR2 : H < R2 := by rw [hR2]; exact Hs8.out.lt
          have hR12 : R1 < R2 := by rw [hR2]; exact b8.lt
          have q0 : Blk (w8.alloc (.cells (arr encB zero32) 36)) R2 36 (arr encB zero32) := by rw [HR2.out]; exact Blk.new w8 _ _
          have HB8 := Lib.hid (C8.alloc C8.size (.cells (arr encB zero32) 36))
          have Hs8a := Lib.hid (Hs8.out.below ((Below.refl _ w8).alloc (Nat.le_refl _) (.cells (arr encB zero32) 36)) Hs8.out.lt)
          have b8a := b8.alloc (.cells (arr encB zero32) 36)
          clear hR2 hB8 C8 g6 b7 b8
          go_wp2_with (first
            | rw [← HR2.out]
            | ((with_reducible refine wpList_store_blk rfl 36 (.tmp 12) (.tmp 91) rfl R2 36 (arr encB zero32) (arr encB D) ?hb rfl rfl (arrSz HND.out) ?hl (arr_one encB_one _) ?_); (case hb => exact q0); (case hl => rw [arr_size, arr_size, zero32_len, HND.out]); intro v9 b9 hg9 hs9; clear hs9; have p9 := b8a.grown hg9 (by intro e; cases e; omega))
            | ((with_reducible refine wpList_load_blk rfl 36 (.tmp 11) rfl R1 36 (arr encB D) ?hb rfl arrTy rfl (arrSz HND.out) ?_); (case hb => exact p9))
            | ((with_reducible refine wpList_load_blk rfl 36 (.tmp 12) rfl R2 36 (arr encB D) ?hb rfl arrTy rfl (arrSz HND.out) ?_); (case hb => exact b9)))
          have B9 := Lib.hid (below_only HB8.out hg9 HB8.out.size lR2)
          have Hs9 := Lib.hid (Hs8a.out.chg (F := fun q _ => q = R2) (Chg.of_row hg9 q0 b9 (by rw [arr_size, arr_size, zero32_len, HND.out]) (fun _ => rfl)) (fun i e => by omega))
          have g7 := Lib.hid (equal_any D D v9 HND.out HND.out)
          rw [show decide (D = D) = true from decide_eq_true rfl] at g7
          clear Hs8 Hs8a HB8 hg9 q0 b8a p9 b9
          with_reducible refine g7.out.mono ?_
          rintro e w10 ⟨rfl, hB10⟩
          have Hs10 := Lib.hid (Hs9.out.below hB10 Hs9.out.lt)
          have B10 := Lib.hid (B9.out.trans (hB10.mono B9.out.size))
          have g8 := Lib.hid (count_any ksL startS H l n w10 Hs10.out)
          clear g7 hB10
          go_wp2_with fail
          with_reducible refine g8.out.mono ?_
          rintro e w11 ⟨rfl, rfl⟩
          go_wp2_with fail
          go_ret
          exact ⟨rfl, B10.out⟩
end Go.Proofs.YtepikbmlhejobaaDoor
