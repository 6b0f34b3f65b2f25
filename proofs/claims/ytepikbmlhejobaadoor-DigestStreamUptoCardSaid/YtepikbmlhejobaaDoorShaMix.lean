/- SHA-256: the program's mix, by contract. -/
import Derived.Test.YtepikbmlhejobaaDoorShaW
namespace Go.Proofs.YtepikbmlhejobaaDoor
open Go.RowKit
attribute [local go_sem] signed_u32 max_u32 u32_not_ u8_to_u32 u32_xor_ u32_and_ u32_or_ u32_add_ u32_addw u32_shr3 u32_shr10
theorem sTy : Tryd.prog.underlying 58 = some (.array 8 46) := Tryd.underlying58
theorem sSz0 : (Tryd.prog.info? 58).map (·.size) = some 8 := by kernel_rfl
theorem sSz {l : List UInt32} (h : l.length = 8) : (Tryd.prog.info? 58).map (·.size) = some (arr enc32 l).size := by rw [arr_size, h]; exact sSz0
theorem cTy : Tryd.prog.underlying 60 = some (.array 64 5) := Tryd.underlying60
theorem cSz0 : (Tryd.prog.info? 60).map (·.size) = some 64 := by kernel_rfl
theorem cSz {l : List UInt8} (h : l.length = 64) : (Tryd.prog.info? 60).map (·.size) = some (arr encB l).size := by rw [arr_size, h]; exact cSz0
def zero8 : List UInt32 := List.replicate 8 0
theorem zero8_len : zero8.length = 8 := by simp [zero8]
theorem zeroS : ∀ W : World, (zeroValue 58).run Tryd.prog W = .ok (.agg (arr enc32 zero8)) W := fun _ => by kernel_rfl
theorem one8 (a b c d e f g h : UInt32) : (#[enc32 a, enc32 b, enc32 c, enc32 d, enc32 e, enc32 f, enc32 g, enc32 h] : Array Value).all (·.oneCell') = true := by simp [enc32_one]
/-- the first two packs of blocks of a call to mix -/
theorem three_blks (w : World) (x y z : Array Value) (a b c : TypeId) : ∃ W H0 H1 H2, W = ((w.alloc (.cells x a)).alloc (.cells y b)).alloc (.cells z c) ∧ H0 = w.heap.size ∧ H1 = w.heap.size + 1 ∧ H2 = w.heap.size + 1 + 1 ∧ H0 < H1 ∧ H1 < H2 ∧ H2 < W.heap.size ∧ Blk W H0 a x ∧ Blk W H1 b y ∧ Blk W H2 c z ∧ Below w.heap.size w W := by
  refine ⟨_, _, _, _, rfl, rfl, rfl, rfl, by omega, by omega, by simp, ((Blk.new w _ _).alloc _).alloc _, ?_, ?_, (((Below.refl _ w).alloc (Nat.le_refl _) _).alloc (by simp) _).alloc (by simp; omega) _⟩
  · have := (Blk.new (w.alloc (.cells x a)) b y).alloc (.cells z c)
    rwa [World.size_alloc] at this
  · have := Blk.new ((w.alloc (.cells x a)).alloc (.cells y b)) c z
    rwa [World.size_alloc, World.size_alloc] at this
set_option maxRecDepth 20000 in
set_option maxHeartbeats 1000000 in
theorem mix_any (ks : List UInt32) (hk : ks.length = 64) (s : S8) (c : List UInt8) (hc : c.length = 64) (w : World) (hT : Rd enc32 w (some ⟨3, 0, none⟩) ks) :
    Calls Tryd.prog 37 #[.agg (arr enc32 s.list), .agg (arr encB c)] w fun e w' => e = .returned (.agg (arr enc32 (mixL ks s c).list)) ∧ Below w.heap.size w w' := by
  have hz := zeroS
  have hz2 := zeroW'
  have Hc := Lib.hid hc
  have Hk := Lib.hid hk
  have HT := Lib.hid hT
  clear hc hk hT
  obtain ⟨W, H0, H1, H2, hW, hH0, hH1, hH2, h01, h12, h2W, b0, b1, b2, bB⟩ := three_blks w (arr enc32 s.list) (arr encB c) (arr enc32 zero8) 58 60 58
  have HW := Lib.hid hW
  have HH0 := Lib.hid hH0
  have HH1 := Lib.hid hH1
  have HH2 := Lib.hid hH2
  clear hW hH0 hH1 hH2
  go_enter Tryd.func37, Tryd.ntmps37
  have SC := Lib.hid (schedule_any c Hc.out W)
  go_wp2_with (first
    | ((with_reducible refine wpList_load_blk rfl 60 (.tmp 3) rfl (w.heap.size + 1) 60 (arr encB c) ?hb rfl cTy rfl (cSz Hc.out) ?_); case hb => (rw [← HW.out, ← HH1.out]; exact b1))
    | (go_at_call 43; rw [← HW.out, ← HH2.out, ← HH1.out, ← HH0.out]; (with_reducible refine SC.out.mono ?_); rintro e w1 ⟨rfl, hB1⟩)
    | ((with_reducible refine wpList_store_blk rfl 67 (.tmp 5) (.tmp 17) rfl w1.heap.size 67 (arr enc32 zero64) (arr enc32 (sched c 64)) ?hb rfl rfl (wSz (sched_len _ _)) (by rw [arr_size, arr_size, sched_len, zero64_len]) (arr_one enc32_one _) ?_); (case hb => exact Blk.new w1 _ _); intro w2 b5 hg2 hs2; have HS2 := Lib.hid hs2; clear hs2; have a0 := ((b0.below hB1 (by omega)).alloc (.cells (arr enc32 zero64) 67)).grown hg2 (by intro e; injection e with e; have := hB1.size; omega))
    | ((with_reducible refine wpList_load_blk rfl 58 (.tmp 2) rfl H0 58 (arr enc32 s.list) ?hb rfl sTy rfl (sSz s.list_len) ?_); case hb => exact a0)
    | ((with_reducible refine wpList_store_blk rfl 58 (.tmp 6) (.tmp 18) rfl w2.heap.size 58 (arr enc32 zero8) (arr enc32 s.list) ?hb rfl rfl (sSz s.list_len) (by rw [arr_size, arr_size, s.list_len, zero8_len]) (arr_one enc32_one _) ?_); (case hb => exact Blk.new w2 _ _); intro w3 b6 hg3 hs3; have HS3 := Lib.hid hs3; clear hs3))
  obtain ⟨H5, H6, hH5, hH6⟩ : ∃ H5 H6, H5 = w1.heap.size ∧ H6 = w2.heap.size := ⟨_, _, rfl, rfl⟩
  have hs2 : w2.heap.size = w1.heap.size + 1 := by rw [HS2.out]; simp
  have h25 : H2 < H5 := by have := hB1.size; omega
  have h56 : H5 < H6 := by omega
  have k2 : Chg (fun k _ => w1.heap.size ≤ k) w1 w2 := (Chg.alloc (fun k _ => w1.heap.size ≤ k) w1 _).trans (Chg.of_row (F := fun k _ => w1.heap.size ≤ k) hg2 (Blk.new w1 _ _) b5 (by rw [arr_size, arr_size, sched_len, zero64_len]) fun _ => Nat.le_refl _) fun _ _ _ h => h
  have k3 : Chg (fun k _ => w2.heap.size ≤ k) w2 w3 := (Chg.alloc (fun k _ => w2.heap.size ≤ k) w2 _).trans (Chg.of_row (F := fun k _ => w2.heap.size ≤ k) hg3 (Blk.new w2 _ _) b6 (by rw [arr_size, arr_size, s.list_len, zero8_len]) fun _ => Nat.le_refl _) fun _ _ _ h => h
  have c0 : Blk w3 H0 58 (arr enc32 s.list) := k3.blk a0 fun _ => by omega
  have c2 : Blk w3 H2 58 (arr enc32 zero8) := k3.blk (k2.blk (b2.below hB1 (by omega)) fun _ => by omega) fun _ => by omega
  have c5 : Blk w3 H5 67 (arr enc32 (sched c 64)) := by rw [hH5]; exact k3.blk b5 fun _ => by omega
  have c6 : Blk w3 H6 58 (arr enc32 s.list) := by rw [hH6]; exact b6
  have hwW := bB.size
  have hB0 : w.heap.size ≤ H0 := by have := HH0.out; omega
  have cB : Below w.heap.size w w3 := ((bB.trans (hB1.mono hwW)).trans (k2.below (by have := hB1.size; omega) fun j i hj hle => by have := hB1.size; omega)).trans (k3.below (by have := hB1.size; omega) fun j i hj hle => by have := hB1.size; omega)
  rw [← hH5, ← hH6]
  clear hH5 hH6 hs2 k2 k3 a0 b0 b1 b2 bB b5 b6 hg2 hg3 HS2 HS3 hB1 hz hz2 hwW
  obtain ⟨ws, hws⟩ : ∃ ws, ws = sched c 64 := ⟨_, rfl⟩
  have hwl : ws.length = 64 := by rw [hws]; exact sched_len c 64
  have Hwl := Lib.hid hwl
  have Hws := Lib.hid hws
  rw [← hws] at c5 ⊢
  clear hws hwl
  go_loopw [19] (fun t wr => ∃ k : Nat, k ≤ 64 ∧ t = .int .i64 k ∧ Blk wr H0 58 (arr enc32 s.list) ∧ Blk wr H2 58 (arr enc32 zero8) ∧ Blk wr H5 67 (arr enc32 ws) ∧ Blk wr H6 58 (arr enc32 (roundsTo ks ws s k).list) ∧ Below w.heap.size w wr) (fun t _ => 64 - (intOf t).toNat)
  case atStart => exact ⟨0, by omega, rfl, c0, c2, c5, c6, cB⟩
  case round =>
    obtain ⟨k, hk, rfl, d0, d2, d5, d6, dB⟩ := hrel
    clear c0 c2 c5 c6 cB
    by_cases hlt : k < 64
    · obtain ⟨v, hv⟩ : ∃ v, v = roundsTo ks ws s k := ⟨_, rfl⟩
      rw [← hv] at d6
      have x3 : wr.cell? ⟨3, k, none⟩ = some (enc32 (wAt ks k)) := by
        obtain ⟨ad, e, hc⟩ := HT.out k (wAt ks k) (by unfold wAt; rw [List.getD_eq_getElem?_getD, List.getElem?_eq_getElem (by rw [Hk.out]; exact hlt)]; rfl)
        cases e
        rw [add_lit_, Nat.zero_add] at hc
        exact (dB.cell (p := ⟨3, k, none⟩) (World.block_lt_of_cell? w _ hc)).trans hc
      have x5 : wr.cell? ⟨H5, k, none⟩ = some (enc32 (wAt ws k)) := (d5.cell _).trans (arr_at (by unfold wAt; rw [List.getD_eq_getElem?_getD, List.getElem?_eq_getElem (by rw [Hwl.out]; exact hlt)]; rfl))
      have v0 : wr.cell? ⟨H6, 0, none⟩ = some (enc32 v.a) := d6.cell 0
      have v1 : wr.cell? ⟨H6, 1, none⟩ = some (enc32 v.b) := d6.cell 1
      have v2 : wr.cell? ⟨H6, 2, none⟩ = some (enc32 v.c) := d6.cell 2
      have v3 : wr.cell? ⟨H6, 3, none⟩ = some (enc32 v.d) := d6.cell 3
      have v4 : wr.cell? ⟨H6, 4, none⟩ = some (enc32 v.e) := d6.cell 4
      have v5 : wr.cell? ⟨H6, 5, none⟩ = some (enc32 v.f) := d6.cell 5
      have v6 : wr.cell? ⟨H6, 6, none⟩ = some (enc32 v.g) := d6.cell 6
      have v7 : wr.cell? ⟨H6, 7, none⟩ = some (enc32 v.h) := d6.cell 7
      have j0 : (0 : Int) ≤ (k : Int) ∧ (k : Int) < 64 := by omega
      have HV := Lib.hid hv
      clear hv
      go_wp2_with fail
      go_quiet (fail)
      go_wp2_with (go_at_call 44; (with_reducible refine (rotr_z _ _ (by omega) (by omega) _).mono ?_); rintro e w' ⟨rfl, rfl⟩)
      go_quiet (fail)
      go_wp2_with (first
        | ((with_reducible refine wpList_store_blk rfl 58 (.tmp 6) (.tmp 100) rfl H6 58 (arr enc32 v.list) #[enc32 (v.h + (rotrL v.e 6 ^^^ rotrL v.e 11 ^^^ rotrL v.e 25) + (v.e &&& v.f ^^^ (4294967295 ^^^ v.e) &&& v.g) + wAt ks k + wAt ws k + (rotrL v.a 2 ^^^ rotrL v.a 13 ^^^ rotrL v.a 22) + (v.a &&& v.b ^^^ v.a &&& v.c ^^^ v.b &&& v.c)), enc32 v.a, enc32 v.b, enc32 v.c, enc32 (v.d + (v.h + (rotrL v.e 6 ^^^ rotrL v.e 11 ^^^ rotrL v.e 25) + (v.e &&& v.f ^^^ (4294967295 ^^^ v.e) &&& v.g) + wAt ks k + wAt ws k)), enc32 v.e, enc32 v.f, enc32 v.g] ?hb rfl rfl ?h1 ?h2 ?h3 ?_); (case hb => exact d6.drewN _); (case h1 => exact sSz0); (case h2 => rfl); (case h3 => exact one8 _ _ _ _ _ _ _ _); intro w4 b6 hg4 hs4; have HS4 := Lib.hid hs4; clear hs4))
      have b6' : Blk w4 H6 58 (arr enc32 (round1 v (wAt ks k) (wAt ws k)).list) := b6
      rw [HV.out] at b6'
      go_roundw
      case rel => exact ⟨k + 1, by omega, by go_num, (d0.drewN _).grown hg4 (by intro e; injection e with e; omega), (d2.drewN _).grown hg4 (by intro e; injection e with e; omega), (d5.drewN _).grown hg4 (by intro e; injection e with e; omega), b6', below_only (below_drewN dB _) hg4 dB.size (by omega)⟩
      case measure => simp [intOf]; omega
    · obtain rfl : k = 64 := by omega
      rw [show ((64 : Nat) : Int) = 64 from rfl]
      go_wp2_with fail
      obtain ⟨v, hv⟩ : ∃ v, v = roundsTo ks ws s 64 := ⟨_, rfl⟩
      rw [← hv] at d6
      have HV := Lib.hid hv
      clear hv
      go_loopw [102] (fun t wr => ∃ k : Nat, k ≤ 8 ∧ t = .int .i64 k ∧ Blk wr H0 58 (arr enc32 (addTo s v k)) ∧ Blk wr H2 58 (arr enc32 zero8) ∧ Blk wr H6 58 (arr enc32 v.list) ∧ Below w.heap.size w wr) (fun t _ => 8 - (intOf t).toNat)
      case atStart => exact ⟨0, by omega, rfl, by rw [addTo_zero]; exact d0, d2, d6, dB⟩
      case round =>
        obtain ⟨k, hk, rfl, e0, e2, e6, eB⟩ := hrel
        clear d0 d2 d5 d6 dB
        by_cases hlt : k < 8
        · have x0 : wr.cell? ⟨H0, k, none⟩ = some (enc32 (wAt s.list k)) := (e0.cell _).trans (arr_at (addTo_get s v hlt))
          have x6 : wr.cell? ⟨H6, k, none⟩ = some (enc32 (wAt v.list k)) := (e6.cell _).trans (arr_at (list_get v hlt))
          have f0 := e0.frozen k
          have j0 : (0 : Int) ≤ (k : Int) ∧ (k : Int) < 8 := by omega
          have hset := addTo_set s v hlt
          have Hset := Lib.hid hset
          clear hset
          generalize wAt s.list k = a at *
          generalize wAt v.list k = b at *
          go_wp2_with fail
          go_still_tail 8, (by kernel_rfl)
          go_wp2
          go_roundw
          case rel =>
            have h2 := (e0.drewN 1).set_ k (enc32 (a + b))
            rw [arr_set, Hset.out] at h2
            exact ⟨k + 1, by omega, by go_num, h2, (e2.drewN 1).far (by show H2 ≠ H0; omega) _, (e6.drewN 1).far (by show H6 ≠ H0; omega) _, (below_drewN eB 1).setCell hB0 _⟩
          case measure => simp [intOf]; omega
        · obtain rfl : k = 8 := by omega
          rw [addTo_all] at e0
          have hfin : (mixL ks s c).list = (add8 s v).list := by unfold mixL; rw [HV.out, Hws.out]
          have Hfin := Lib.hid hfin
          clear hfin
          go_wp2_with (first
            | ((with_reducible refine wpList_load_blk rfl 58 (.tmp 2) rfl H0 58 (arr enc32 (add8 s v).list) ?hb rfl sTy rfl (sSz (S8.list_len _)) ?_); case hb => exact e0)
            | ((with_reducible refine wpList_store_blk rfl 58 (.tmp 4) (.tmp 114) rfl H2 58 (arr enc32 zero8) (arr enc32 (add8 s v).list) ?hb rfl rfl (sSz (S8.list_len _)) (by rw [arr_size, arr_size, S8.list_len, zero8_len]) (arr_one enc32_one _) ?_); (case hb => exact e2); intro w5 b7 hg5 hs5))
          refine bodyPost_cell rfl H2 58 _ (0, 0) _ rfl b7 sTy rfl (sSz (S8.list_len _)) rfl ⟨by rw [Hfin.out], below_only eB hg5 eB.size (by omega)⟩
end Go.Proofs.YtepikbmlhejobaaDoor
