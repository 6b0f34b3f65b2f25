/- The reference: sumWith. (Under way: does not yet prove.) -/
import Derived.Test.YtepikbmlhejobaaDoorRefPad
import Derived.Test.YtepikbmlhejobaaDoorRefWords
import Derived.Test.YtepikbmlhejobaaDoorRefChunk
namespace Go.Proofs.YtepikbmlhejobaaDoor
open Go.RowKit
set_option linter.unusedSimpArgs false
attribute [local go_sem] u32_to_u8 u32_to_u8' u32_shr24 u32_shr16 u32_shr8
set_option maxRecDepth 20000 in
set_option maxHeartbeats 4000000 in
theorem sumWith_any (ks : List UInt32) (hk : ks.length = 64) (s0 : S8) (A : Option Addr) (c n : Nat) (l : List UInt8) (w : World) (hn : l.length = n) (hb : n ≤ 140737488355200) (h : Rd encB w A l) :
    Calls Tryd.prog 39 #[.slice A n c, .agg (arr enc32 s0.list), .agg (arr enc32 ks)] w fun e w' => e = .returned (.agg (arr encB (digestL ks s0 l))) ∧ Below w.heap.size w w' := by
  have z1 := zeroA32
  have z2 := zeroR
  have z3 := zeroW'
  have HP := Lib.hid h
  have HN := Lib.hid hn
  have Hk := Lib.hid hk
  clear h hn hk
  obtain ⟨W, H0, H1, H2, hW, hH0, hH1, hH2, h01, h12, h2W, b0, b1, b2, bB⟩ := three_blks w (arr enc32 s0.list) (arr enc32 ks) (arr encB zero32) 57 67 36
  have HW := Lib.hid hW
  have HH0 := Lib.hid hH0
  have HH1 := Lib.hid hH1
  have HH2 := Lib.hid hH2
  clear hW hH0 hH1 hH2
  have g1 := Lib.hid (padded_any A c n l W HN.out hb (HP.out.below bB))
  go_enter Tryd.func39, Tryd.ntmps39
  go_wp2_with (rw [← HW.out])
  with_reducible refine g1.out.mono ?_
  rintro e w1 ⟨v, rfl, ov, hB1⟩
  obtain ⟨A1, c1, hv, hc1, r1, _⟩ := ov.slice
  subst hv
  obtain ⟨M, hM⟩ : ∃ M, M = paddedL l := ⟨_, rfl⟩
  have hML := paddedL_len l
  rw [← hM] at r1 hML ⊢
  obtain ⟨N, hN⟩ : ∃ N, N = M.length := ⟨_, rfl⟩
  have hz : zerosOf l.length ≤ 63 := by unfold zerosOf; omega
  have hNb : N ≤ 140737488355328 := by have h5 := hML.2; have h6 := HN.out; omega
  have hN64 : 64 * (N / 64) = N := by rw [hN]; exact hML.1
  rw [← hN]
  have HM := Lib.hid hM
  have HNe := Lib.hid hN
  have R1 := Lib.hid r1
  have B1 := Lib.hid (bB.trans (hB1.mono bB.size))
  have d0 := b0.below hB1 (by omega)
  have d1 := b1.below hB1 (by omega)
  have d2 := b2.below hB1 (by omega)
  obtain ⟨S, hS⟩ : ∃ S, S = w1.heap.size := ⟨_, rfl⟩
  have h2S : H2 < S := by rw [hS]; exact d2.lt
  have q0 : Blk (w1.alloc (.cells (arr enc32 zero8) 57)) S 57 (arr enc32 zero8) := by rw [hS]; exact Blk.new w1 _ _
  have HSe := Lib.hid hS
  clear g1 ov hc1 r1 hB1 hM hN hML hz hS b0 b1 b2 bB
  go_wp2_with (first
    | ((with_reducible refine wpList_load_blk rfl 57 (.tmp 4) rfl w.heap.size 57 (arr enc32 s0.list) ?hb rfl rTy rfl (rSz s0.list_len) ?_); case hb => (rw [← HH0.out]; exact d0))
    | (rw [← HSe.out]; (with_reducible refine wpList_store_blk rfl 57 (.tmp 8) (.tmp 15) rfl S 57 (arr enc32 zero8) (arr enc32 s0.list) ?hb rfl rfl (rSz s0.list_len) (by rw [arr_size, arr_size, s0.list_len, zero8_len]) (arr_one enc32_one _) ?_); (case hb => exact q0); intro w3 c4 hg3 hs3; clear hs3))
  have hA1 : ∀ ad, A1 = some ad → ad.block < S := fun ad e => by
    obtain ⟨ad', e', hlt⟩ := R1.out.blk_lt (by intro e2; have h5 := HNe.out; rw [e2] at h5; have h6 := (paddedL_len l).2; rw [← HM.out, e2] at h6; simp at h6)
    rw [e] at e'; cases e'
    rw [HSe.out]; exact hlt
  have e1 := (d1.alloc (.cells (arr enc32 zero8) 57)).grown hg3 (by intro e; cases e; omega)
  have e2 := (d2.alloc (.cells (arr enc32 zero8) 57)).grown hg3 (by intro e; cases e; omega)
  have rM := (R1.out.alloc (.cells (arr enc32 zero8) 57)).grown hg3 (fun ad e e2 => by have := hA1 ad e; cases e2; omega)
  have hwS : w.heap.size ≤ S := by have := HH2.out; omega
  have B3 := below_only (B1.out.alloc B1.out.size (.cells (arr enc32 zero8) 57)) hg3 (B1.out.alloc B1.out.size (.cells (arr enc32 zero8) 57)).size hwS
  have HA1 := Lib.hid hA1
  clear hA1 d0 d1 d2 q0 hg3
  go_loopw [9] (fun t wr => ∃ a q : Nat, a = 64 * q ∧ a ≤ N ∧ t = .int .i64 a ∧ Blk wr H1 67 (arr enc32 ks) ∧ Blk wr H2 36 (arr encB zero32) ∧ Blk wr S 57 (arr enc32 (chainN ks q s0 M).list) ∧ Rd encB wr A1 M ∧ Below w.heap.size w wr) (fun t _ => N - (intOf t).toNat)
  case atStart => exact ⟨0, 0, rfl, by omega, rfl, e1, e2, c4, rM, B3⟩
  case round =>
    obtain ⟨a, q, haq, haN, rfl, p1, p2, pS, rM', hB⟩ := hrel
    clear e1 e2 c4 rM B3
    have HAQ := Lib.hid haq
    clear haq
    by_cases hlt : a + 64 ≤ N
    · have hlt' : (a : Int) + 64 ≤ (N : Int) := by omega
      have hqn := chainN_succ ks q s0 M
      obtain ⟨ch, hch⟩ : ∃ ch, ch = (M.drop a).take 64 := ⟨_, rfl⟩
      rw [← HAQ.out, ← hch] at hqn
      obtain ⟨v, hv⟩ : ∃ v, v = chainN ks q s0 M := ⟨_, rfl⟩
      rw [← hv] at hqn pS
      have hws := sched_len ch 64
      obtain ⟨ws, hwse⟩ : ∃ ws, ws = sched ch 64 := ⟨_, rfl⟩
      rw [← hwse] at hws
      have Hws := Lib.hid hws
      have g5 := Lib.hid (words_any A1 c1 N a M wr HNe.out.symm hlt hNb rM')
      rw [← hch, ← hwse] at g5
      have hmix : add8 v (roundsTo ks ws v 64) = chainN ks (q + 1) s0 M := by rw [hqn, mixL, ← hwse]
      have HMIX := Lib.hid hmix
      have g6 := fun W => chunk_any ks ws Hk.out Hws.out v W
      rw [HMIX.out] at g6
      have G6 := Lib.hid g6
      clear hqn hch hv hws hwse hmix g6
      go_wp2_with fail
      with_reducible refine g5.out.mono ?_
      rintro e w5 ⟨rfl, hB5⟩
      have t1 := p1.below hB5 p1.lt
      have t2 := p2.below hB5 p2.lt
      have tS := pS.below hB5 pS.lt
      have tM := rM'.below hB5
      have B5 := Lib.hid (hB.trans (hB5.mono hB.size))
      obtain ⟨T, hT⟩ : ∃ T, T = w5.heap.size := ⟨_, rfl⟩
      have hST : S < T := by rw [hT]; exact tS.lt
      have q0 : Blk (w5.alloc (.cells (arr enc32 zero64) 67)) T 67 (arr enc32 zero64) := by rw [hT]; exact Blk.new w5 _ _
      have HTe := Lib.hid hT
      clear g5 p1 p2 pS rM' hB hB5 hT
      go_wp2_with (first
        | (rw [← HTe.out]; (with_reducible refine wpList_store_blk rfl 67 (.tmp 10) (.tmp 25) rfl T 67 (arr enc32 zero64) (arr enc32 ws) ?hb rfl rfl (wSz Hws.out) (by rw [arr_size, arr_size, Hws.out, zero64_len]) (arr_one enc32_one _) ?_); (case hb => exact q0); intro w6 bT hg6 hs6; clear hs6; have u1 := (t1.alloc (.cells (arr enc32 zero64) 67)).grown hg6 (by intro e; cases e; omega); have uS := (tS.alloc (.cells (arr enc32 zero64) 67)).grown hg6 (by intro e; cases e; omega))
        | ((with_reducible refine wpList_load_blk rfl 57 (.tmp 8) rfl S 57 (arr enc32 v.list) ?hb rfl rTy rfl (rSz v.list_len) ?_); case hb => exact uS)
        | ((with_reducible refine wpList_load_blk rfl 67 (.tmp 10) rfl T 67 (arr enc32 ws) ?hb rfl wTy rfl (wSz Hws.out) ?_); case hb => exact bT)
        | ((with_reducible refine wpList_load_blk rfl 67 (.tmp 5) rfl (w.heap.size + 1) 67 (arr enc32 ks) ?hb rfl wTy rfl (wSz Hk.out) ?_); case hb => (rw [← HH1.out]; exact u1)))
      have u2 := (t2.alloc (.cells (arr enc32 zero64) 67)).grown hg6 (by intro e; cases e; omega)
      have uM := (tM.alloc (.cells (arr enc32 zero64) 67)).grown hg6 (fun ad e e2 => by have := HA1.out ad e; cases e2; omega)
      have C5 := B5.out.alloc B5.out.size (.cells (arr enc32 zero64) 67)
      have B6 := Lib.hid (below_only C5 hg6 C5.size (by omega))
      clear t1 t2 tS tM hg6 q0 bT C5
      with_reducible refine (G6.out w6).mono ?_
      rintro e w7 ⟨rfl, hB7⟩
      have k1 := u1.below hB7 u1.lt
      have k2 := u2.below hB7 u2.lt
      have kS := uS.below hB7 uS.lt
      have kM := uM.below hB7
      have B7 := B6.out.trans (hB7.mono B6.out.size)
      clear u1 u2 uS uM hB7
      have hcl := (chainN ks (q + 1) s0 M).list_len
      go_wp2_with (first
        | ((with_reducible refine wpList_store_blk rfl 57 (.tmp 8) (.tmp 29) rfl S 57 (arr enc32 v.list) (arr enc32 (chainN ks (q + 1) s0 M).list) ?hb rfl rfl (rSz hcl) (by rw [arr_size, arr_size, v.list_len, hcl]) (arr_one enc32_one _) ?_); (case hb => exact kS); intro w8 bS hg8 hs8; clear hs8))
      go_roundw
      case rel => exact ⟨a + 64, q + 1, by have := HAQ.out; omega, by omega, by go_num, k1.grown hg8 (by intro e; cases e; omega), k2.grown hg8 (by intro e; cases e; omega), bS, kM.grown hg8 (fun ad e e2 => by have := HA1.out ad e; cases e2; omega), below_only B7 hg8 B7.size (by omega)⟩
      case measure => simp [intOf]; omega
    · have hlt' : ¬ (a : Int) + 64 ≤ (N : Int) := by omega
      have hqN : q = N / 64 := by have := HAQ.out; omega
      obtain ⟨s3, hs3⟩ : ∃ s3, s3 = chainN ks q s0 M := ⟨_, rfl⟩
      rw [← hs3] at pS
      have hfin : digestL ks s0 l = bytesOf s3 := by rw [hs3, hqN, HNe.out, HM.out]; rfl
      have HFIN := Lib.hid hfin
      obtain ⟨T, hT⟩ : ∃ T, T = wr.heap.size := ⟨_, rfl⟩
      have hST : S < T := by rw [hT]; exact pS.lt
      have r2 := p2.alloc (.cells (arr encB zero32) 36)
      have rS := pS.alloc (.cells (arr encB zero32) 36)
      have rT : Blk (wr.alloc (.cells (arr encB zero32) 36)) T 36 (arr encB (sumTo s3 0)) := by rw [hT]; exact Blk.new wr _ _
      have rB := hB.alloc hB.size (.cells (arr encB zero32) 36)
      have HTe := Lib.hid hT
      clear hs3 hfin hT p1 p2 pS rM' hB hqN
      go_wp2_with fail
      rw [← HTe.out]
      go_loopw [12] (fun t12 wr => ∃ k : Nat, k ≤ 8 ∧ t12 = .int .i64 k ∧ Blk wr H2 36 (arr encB zero32) ∧ Blk wr S 57 (arr enc32 s3.list) ∧ Blk wr T 36 (arr encB (sumTo s3 k)) ∧ Below w.heap.size w wr) (fun t12 _ => 8 - (intOf t12).toNat)
      case atStart => exact ⟨0, by omega, rfl, r2, rS, rT, rB⟩
      case round =>
        obtain ⟨k, hk8, rfl, g0, gQ, gS, gB⟩ := hrel
        clear r2 rS rT rB
        by_cases hlt : k < 8
        · have hrd := (gQ.cell k).trans (arr_at (list_get s3 hlt))
          have hln : (sumTo s3 k).length = 32 := sumTo_len s3 hk8
          have cell : ∀ j, j < 32 → ∃ z, wr.cell? ⟨T, j, none⟩ = some (encB z) := fun j hj => ⟨_, (gS.cell _).trans (arr_at (List.getElem?_eq_getElem (by omega)))⟩
          obtain ⟨y0, c0⟩ := cell (4 * k) (by omega)
          obtain ⟨y1, c1⟩ := cell (4 * k + 1) (by omega)
          obtain ⟨y2, c2⟩ := cell (4 * k + 2) (by omega)
          obtain ⟨y3, c3⟩ := cell (4 * k + 3) (by omega)
          have f0 := gS.frozen (4 * k)
          have f1 := gS.frozen (4 * k + 1)
          have f2 := gS.frozen (4 * k + 2)
          have f3 := gS.frozen (4 * k + 3)
          have w4 : IntKind.i64.wrap (4 * (k : Int)) = 4 * (k : Int) := i64_in_ _ (by omega)
          have i0 : (0 : Int) ≤ 4 * (k : Int) ∧ 4 * (k : Int) < 32 := by omega
          have n0 : (4 * (k : Int)).toNat = 4 * k := by omega
          have hset := sumTo_set s3 hlt
          have HSET := Lib.hid hset
          clear hset cell hln
          have i8 : (0 : Int) ≤ (k : Int) ∧ (k : Int) < 8 := by omega
          have hne : S ≠ T := by omega
          generalize wAt s3.list k = x at *
          go_wp2
          go_roundw
          case rel =>
            have h2 := (((gS.set_ (4 * k) (encB (x >>> 24).toUInt8)).set_ (4 * k + 1) (encB (x >>> 16).toUInt8)).set_ (4 * k + 2) (encB (x >>> 8).toUInt8)).set_ (4 * k + 3) (encB x.toUInt8)
            rw [arr_set, arr_set, arr_set, arr_set, HSET.out] at h2
            exact ⟨k + 1, by omega, by go_num, (((g0.far (by show H2 ≠ T; omega) _).far (by show H2 ≠ T; omega) _).far (by show H2 ≠ T; omega) _).far (by show H2 ≠ T; omega) _, (((gQ.far (by show S ≠ T; omega) _).far (by show S ≠ T; omega) _).far (by show S ≠ T; omega) _).far (by show S ≠ T; omega) _, h2, (((gB.setCell (by show w.heap.size ≤ T; omega) _).setCell (by show w.heap.size ≤ T; omega) _).setCell (by show w.heap.size ≤ T; omega) _).setCell (by show w.heap.size ≤ T; omega) _⟩
          case measure => simp [intOf]; omega
        · obtain rfl : k = 8 := by omega
          rw [sumTo_all, ← HFIN.out] at gS
          have hdl := digestL_len ks s0 l
          have HDL := Lib.hid hdl
          clear hdl
          go_wp2_with (first
            | ((with_reducible refine wpList_load_blk rfl 36 (.tmp 11) rfl T 36 (arr encB (digestL ks s0 l)) ?hb rfl arrTy rfl (arrSz HDL.out) ?_); case hb => exact gS)
            | ((with_reducible refine wpList_store_blk rfl 36 (.tmp 6) (.tmp 68) rfl (w.heap.size + 1 + 1) 36 (arr encB zero32) (arr encB (digestL ks s0 l)) ?hb rfl rfl (arrSz HDL.out) ?hl (arr_one encB_one _) ?_); (case hb => (rw [show w.heap.size + 1 + 1 = H2 by rw [HH2.out]]; exact g0)); (case hl => rw [arr_size, arr_size, zero32_len, HDL.out]); intro w9 hb9 hg9 hs9))
          have h9 := below_only gB hg9 gB.size (by omega)
          refine bodyPost_cell rfl (w.heap.size + 1 + 1) 36 _ (0, 0) _ rfl hb9 arrTy rfl (arrSz HDL.out) rfl ⟨rfl, h9⟩
end Go.Proofs.YtepikbmlhejobaaDoor
