/- The reference: chunk. -/
import Derived.Test.YtepikbmlhejobaaDoorShaMix
namespace Go.Proofs.YtepikbmlhejobaaDoor
open Go.RowKit
attribute [local go_sem] signed_u32 max_u32 u32_not_ u8_to_u32 u32_xor_ u32_and_ u32_or_ u32_add_ u32_addw u32_shr3 u32_shr10
theorem rTy : Tryd.prog.underlying 57 = some (.array 8 46) := Tryd.underlying57
theorem rSz0 : (Tryd.prog.info? 57).map (·.size) = some 8 := by kernel_rfl
theorem rSz {l : List UInt32} (h : l.length = 8) : (Tryd.prog.info? 57).map (·.size) = some (arr enc32 l).size := by rw [arr_size, h]; exact rSz0
theorem zeroR : ∀ W : World, (zeroValue 57).run Tryd.prog W = .ok (.agg (arr enc32 zero8)) W := fun _ => by kernel_rfl
theorem add8_comm (s v : S8) : add8 v s = add8 s v := by
  unfold add8
  rw [UInt32.add_comm v.a, UInt32.add_comm v.b, UInt32.add_comm v.c, UInt32.add_comm v.d, UInt32.add_comm v.e, UInt32.add_comm v.f, UInt32.add_comm v.g, UInt32.add_comm v.h]
set_option maxRecDepth 20000 in
set_option maxHeartbeats 2000000 in
theorem chunk_any (ks ws : List UInt32) (hk : ks.length = 64) (hw : ws.length = 64) (s : S8) (w : World) :
    Calls Tryd.prog 47 #[.agg (arr enc32 s.list), .agg (arr enc32 ws), .agg (arr enc32 ks)] w fun e w' => e = .returned (.agg (arr enc32 (add8 s (roundsTo ks ws s 64)).list)) ∧ Below w.heap.size w w' := by
  have hz := zeroR
  have Hk := Lib.hid hk
  have Hwl := Lib.hid hw
  clear hk hw
  obtain ⟨W, H0, H1, H2, hW, hH0, hH1, hH2, h01, h12, h2W, b0, b1, b2, bB⟩ := three_blks w (arr enc32 s.list) (arr enc32 ws) (arr enc32 ks) 57 67 67
  have HW := Lib.hid hW
  have HH0 := Lib.hid hH0
  have HH1 := Lib.hid hH1
  have HH2 := Lib.hid hH2
  clear hW hH0 hH1 hH2
  go_enter Tryd.func47, Tryd.ntmps47
  obtain ⟨V, hV⟩ : ∃ V, V = (W.alloc (.cells (arr enc32 zero8) 57)).alloc (.cells (arr enc32 zero8) 57) := ⟨_, rfl⟩
  obtain ⟨H3, H4, hH3, hH4⟩ : ∃ H3 H4, H3 = w.heap.size + 1 + 1 + 1 ∧ H4 = w.heap.size + 1 + 1 + 1 + 1 := ⟨_, _, rfl, rfl⟩
  have hWs : W.heap.size = w.heap.size + 1 + 1 + 1 := by rw [HW.out]; simp
  have v0 : Blk V H0 57 (arr enc32 s.list) := by rw [hV]; exact (b0.alloc _).alloc _
  have v1 : Blk V H1 67 (arr enc32 ws) := by rw [hV]; exact (b1.alloc _).alloc _
  have v2 : Blk V H2 67 (arr enc32 ks) := by rw [hV]; exact (b2.alloc _).alloc _
  have v3 : Blk V H3 57 (arr enc32 zero8) := by rw [hV, hH3, ← hWs]; exact (Blk.new W _ _).alloc _
  have v4 : Blk V H4 57 (arr enc32 zero8) := by
    have := Blk.new (W.alloc (.cells (arr enc32 zero8) 57)) 57 (arr enc32 zero8)
    rw [World.size_alloc] at this
    rw [hV, hH4, ← hWs]; exact this
  have vB : Below w.heap.size w V := by rw [hV]; exact (bB.alloc bB.size _).alloc (by have := bB.size; simp; omega) _
  have h23 : H2 < H3 := by have := HH2.out; omega
  have h34 : H3 < H4 := by omega
  have hB0 : w.heap.size ≤ H0 := by have := HH0.out; omega
  have HV := Lib.hid hV
  have HH3 := Lib.hid hH3
  have HH4 := Lib.hid hH4
  clear hV hH3 hH4 hWs b1 b2 bB h2W
  go_wp2_with (first
    | ((with_reducible refine wpList_load_blk rfl 57 (.tmp 3) rfl w.heap.size 57 (arr enc32 s.list) ?hb rfl rTy rfl (rSz s.list_len) ?_); case hb => (rw [← HW.out, ← HH0.out]; exact b0.alloc _))
    | (rw [← HW.out, ← HV.out, ← HH4.out, ← HH3.out, ← HH2.out, ← HH1.out, ← HH0.out]; (with_reducible refine wpList_store_blk rfl 57 (.tmp 7) (.tmp 16) rfl H4 57 (arr enc32 zero8) (arr enc32 s.list) ?hb rfl rfl (rSz s.list_len) (by rw [arr_size, arr_size, s.list_len, zero8_len]) (arr_one enc32_one _) ?_); (case hb => exact v4); intro w3 c4 hg3 hs3; clear hs3))
  have c0 := v0.grown hg3 (by intro e; injection e with e; omega)
  have c1 := v1.grown hg3 (by intro e; injection e with e; omega)
  have c2 := v2.grown hg3 (by intro e; injection e with e; omega)
  have c3 := v3.grown hg3 (by intro e; injection e with e; omega)
  have cB := below_only vB hg3 vB.size (by omega)
  clear v0 v1 v2 v3 v4 vB hg3 hz b0
  go_loopw [8] (fun t wr => ∃ k : Nat, k ≤ 64 ∧ t = .int .i64 k ∧ Blk wr H0 57 (arr enc32 s.list) ∧ Blk wr H1 67 (arr enc32 ws) ∧ Blk wr H2 67 (arr enc32 ks) ∧ Blk wr H3 57 (arr enc32 zero8) ∧ Blk wr H4 57 (arr enc32 (roundsTo ks ws s k).list) ∧ Below w.heap.size w wr) (fun t _ => 64 - (intOf t).toNat)
  case atStart => exact ⟨0, by omega, rfl, c0, c1, c2, c3, c4, cB⟩
  case round =>
    obtain ⟨k, hk, rfl, d0, d1, d2, d3, d6, dB⟩ := hrel
    clear c0 c1 c2 c3 c4 cB
    by_cases hlt : k < 64
    · obtain ⟨v, hv⟩ : ∃ v, v = roundsTo ks ws s k := ⟨_, rfl⟩
      rw [← hv] at d6
      have x2 : wr.cell? ⟨H2, k, none⟩ = some (enc32 (wAt ks k)) := (d2.cell _).trans (arr_at (by unfold wAt; rw [List.getD_eq_getElem?_getD, List.getElem?_eq_getElem (by rw [Hk.out]; exact hlt)]; rfl))
      have x1 : wr.cell? ⟨H1, k, none⟩ = some (enc32 (wAt ws k)) := (d1.cell _).trans (arr_at (by unfold wAt; rw [List.getD_eq_getElem?_getD, List.getElem?_eq_getElem (by rw [Hwl.out]; exact hlt)]; rfl))
      have v0 : wr.cell? ⟨H4, 0, none⟩ = some (enc32 v.a) := d6.cell 0
      have v1 : wr.cell? ⟨H4, 1, none⟩ = some (enc32 v.b) := d6.cell 1
      have v2 : wr.cell? ⟨H4, 2, none⟩ = some (enc32 v.c) := d6.cell 2
      have v3 : wr.cell? ⟨H4, 3, none⟩ = some (enc32 v.d) := d6.cell 3
      have v4 : wr.cell? ⟨H4, 4, none⟩ = some (enc32 v.e) := d6.cell 4
      have v5 : wr.cell? ⟨H4, 5, none⟩ = some (enc32 v.f) := d6.cell 5
      have v6 : wr.cell? ⟨H4, 6, none⟩ = some (enc32 v.g) := d6.cell 6
      have v7 : wr.cell? ⟨H4, 7, none⟩ = some (enc32 v.h) := d6.cell 7
      have j0 : (0 : Int) ≤ (k : Int) ∧ (k : Int) < 64 := by omega
      have HV := Lib.hid hv
      clear hv
      go_wp2_with fail
      go_quiet ((go_at_call 50; exact quiet_left (turn_z _ _ (by omega) (by omega) _)))
      go_wp2_with (first
        | (go_at_call 50; (with_reducible refine (turn_z _ _ (by omega) (by omega) _).mono ?_); rintro e w' ⟨rfl, rfl⟩)
        | ((with_reducible refine wpList_store_blk rfl 57 (.tmp 7) (.tmp 100) rfl H4 57 (arr enc32 v.list) #[enc32 (v.h + (rotrL v.e 6 ^^^ rotrL v.e 11 ^^^ rotrL v.e 25) + (v.e &&& v.f ^^^ (4294967295 ^^^ v.e) &&& v.g) + wAt ks k + wAt ws k + ((rotrL v.a 2 ^^^ rotrL v.a 13 ^^^ rotrL v.a 22) + (v.a &&& v.b ^^^ v.a &&& v.c ^^^ v.b &&& v.c))), enc32 v.a, enc32 v.b, enc32 v.c, enc32 (v.d + (v.h + (rotrL v.e 6 ^^^ rotrL v.e 11 ^^^ rotrL v.e 25) + (v.e &&& v.f ^^^ (4294967295 ^^^ v.e) &&& v.g) + wAt ks k + wAt ws k)), enc32 v.e, enc32 v.f, enc32 v.g] ?hb rfl rfl ?h1 ?h2 ?h3 ?_); (case hb => exact d6.drewN _); (case h1 => exact rSz0); (case h2 => rfl); (case h3 => exact one8 _ _ _ _ _ _ _ _); intro w4 b6 hg4 hs4; have HS4 := Lib.hid hs4; clear hs4))
      have b6' : Blk w4 H4 57 (arr enc32 (round1 v (wAt ks k) (wAt ws k)).list) := by
        have := b6
        rw [← UInt32.add_assoc] at this
        exact this
      rw [HV.out] at b6'
      go_roundw
      case rel => exact ⟨k + 1, by omega, by go_num, (d0.drewN _).grown hg4 (by intro e; injection e with e; omega), (d1.drewN _).grown hg4 (by intro e; injection e with e; omega), (d2.drewN _).grown hg4 (by intro e; injection e with e; omega), (d3.drewN _).grown hg4 (by intro e; injection e with e; omega), b6', below_only (below_drewN dB _) hg4 dB.size (by omega)⟩
      case measure => simp [intOf]; omega
    · obtain rfl : k = 64 := by omega
      rw [show ((64 : Nat) : Int) = 64 from rfl]
      go_wp2_with fail
      obtain ⟨v, hv⟩ : ∃ v, v = roundsTo ks ws s 64 := ⟨_, rfl⟩
      rw [← hv] at d6
      have HVV := Lib.hid hv
      clear hv
      go_loopw [15] (fun t wr => ∃ k : Nat, k ≤ 8 ∧ t = .int .i64 k ∧ Blk wr H0 57 (arr enc32 s.list) ∧ Blk wr H3 57 (arr enc32 zero8) ∧ Blk wr H4 57 (arr enc32 (addTo v s k)) ∧ Below w.heap.size w wr) (fun t _ => 8 - (intOf t).toNat)
      case atStart => exact ⟨0, by omega, rfl, d0, d3, by rw [addTo_zero]; exact d6, dB⟩
      case round =>
        obtain ⟨k, hk, rfl, e0, e3, e6, eB⟩ := hrel
        clear d0 d1 d2 d3 d6 dB
        by_cases hlt : k < 8
        · have x6 : wr.cell? ⟨H4, k, none⟩ = some (enc32 (wAt v.list k)) := (e6.cell _).trans (arr_at (addTo_get v s hlt))
          have x0 : wr.cell? ⟨H0, k, none⟩ = some (enc32 (wAt s.list k)) := (e0.cell _).trans (arr_at (list_get s hlt))
          have f6 := e6.frozen k
          have j0 : (0 : Int) ≤ (k : Int) ∧ (k : Int) < 8 := by omega
          have hset := addTo_set v s hlt
          have Hset := Lib.hid hset
          clear hset
          generalize wAt s.list k = a at *
          generalize wAt v.list k = b at *
          go_wp2_with fail
          go_still_tail 9, (by kernel_rfl)
          go_wp2
          go_roundw
          case rel =>
            have h2 := (e6.drewN 1).set_ k (enc32 (b + a))
            rw [arr_set, Hset.out] at h2
            exact ⟨k + 1, by omega, by go_num, (e0.drewN 1).far (by show H0 ≠ H4; omega) _, (e3.drewN 1).far (by show H3 ≠ H4; omega) _, h2, (below_drewN eB 1).setCell (by show w.heap.size ≤ H4; omega) _⟩
          case measure => simp [intOf]; omega
        · obtain rfl : k = 8 := by omega
          rw [addTo_all, add8_comm] at e6
          go_wp2_with (first
            | ((with_reducible refine wpList_load_blk rfl 57 (.tmp 7) rfl H4 57 (arr enc32 (add8 s v).list) ?hb rfl rTy rfl (rSz (add8 s v).list_len) ?_); case hb => exact e6)
            | ((with_reducible refine wpList_store_blk rfl 57 (.tmp 6) (.tmp 114) rfl H3 57 (arr enc32 zero8) (arr enc32 (add8 s v).list) ?hb rfl rfl (rSz (add8 s v).list_len) (by rw [arr_size, arr_size, (add8 s v).list_len, zero8_len]) (arr_one enc32_one _) ?_); (case hb => exact e3); intro w5 hb5 hg5 hs5))
          refine bodyPost_cell rfl H3 57 _ (0, 0) _ rfl hb5 rTy rfl (rSz (add8 s v).list_len) rfl ⟨by rw [HVV.out], below_only eB hg5 eB.size (by omega)⟩
end Go.Proofs.YtepikbmlhejobaaDoor
