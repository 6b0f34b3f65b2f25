/- The reference: words. -/
import Derived.Test.YtepikbmlhejobaaDoorShaW
namespace Go.Proofs.YtepikbmlhejobaaDoor
open Go.RowKit
attribute [local go_sem] signed_u32 max_u32 u32_not_ u8_to_u32 u32_xor_ u32_and_ u32_or_ u32_add_ u32_shr3 u32_shr10
set_option maxRecDepth 20000 in
set_option maxHeartbeats 2000000 in
theorem words_any (A : Option Addr) (cc n a : Nat) (m : List UInt8) (w : World) (hn : m.length = n) (ha : a + 64 ≤ n) (hb : n ≤ 140737488355328) (h : Rd encB w A m) :
    Calls Tryd.prog 46 #[.slice A n cc, .int .i64 a] w fun e w' => e = .returned (.agg (arr enc32 (sched ((m.drop a).take 64) 64))) ∧ Below w.heap.size w w' := by
  have hz := zeroW'
  obtain ⟨c, hcd⟩ : ∃ c, c = (m.drop a).take 64 := ⟨_, rfl⟩
  rw [← hcd]
  obtain ⟨ad, x0, hA, _, _⟩ := h.at_ (k := 0) (by omega)
  subst hA
  have hlt0 : ad.block < w.heap.size := by
    obtain ⟨ad', e', hlt'⟩ := h.blk_lt (by intro e; rw [e] at hn; simp at hn; omega)
    cases e'
    exact hlt'
  have Hc := Lib.hid (show c.length = 64 by rw [hcd, List.length_take, List.length_drop]; omega)
  have hcells : ∀ i, i < 64 → w.cell? (ad.add (a + i)) = some (encB (byteAt c i)) := fun i hi => by
    have hx : m[a + i]? = some (byteAt c i) := by
      unfold byteAt
      rw [hcd, List.getD_eq_getElem?_getD, List.getElem?_take, if_pos hi, List.getElem?_drop, List.getElem?_eq_getElem (by omega)]
      rfl
    obtain ⟨ad', e', hc'⟩ := h (a + i) _ hx
    cases e'
    exact hc'
  have HCE := Lib.hid hcells
  clear hcells hcd h hn
  go_enter Tryd.func46, Tryd.ntmps46
  go_wp2_with fail
  obtain ⟨W, hW⟩ : ∃ W, W = (w.alloc (.cells (arr enc32 zero64) 67)).alloc (.cells (arr enc32 zero64) 67) := ⟨_, rfl⟩
  obtain ⟨H, H1, H2, hH, hH1, hH2⟩ : ∃ H H1 H2, H = w.heap.size ∧ H1 = w.heap.size ∧ H2 = w.heap.size + 1 := ⟨_, _, _, rfl, rfl, rfl⟩
  have b1 : Blk W H1 67 (arr enc32 zero64) := by rw [hW, hH1]; exact (Blk.new w _ _).alloc _
  have b2 : Blk W H2 67 (arr enc32 zero64) := by
    have := Blk.new (w.alloc (.cells (arr enc32 zero64) 67)) 67 (arr enc32 zero64)
    rw [World.size_alloc] at this
    rw [hW, hH2]; exact this
  have bB : Below H w W := by rw [hW, hH]; exact ((Below.refl _ w).alloc (Nat.le_refl _) _).alloc (by simp) _
  have h01 : H ≤ H1 := by omega
  have h12 : H1 < H2 := by omega
  have hadH : ad.block < H := by omega
  have HHH := Lib.hid hH
  have HH1 := Lib.hid hH1
  have HH2 := Lib.hid hH2
  have HWW := Lib.hid hW
  clear hW hH hH1 hH2 hlt0
  rw [← HWW.out, ← HH2.out]
  rw [← HH1.out]
  go_loopw [6] (fun t wr => ∃ k : Nat, k ≤ 16 ∧ t = .int .i64 k ∧ Blk wr H1 67 (arr enc32 zero64) ∧ Blk wr H2 67 (arr enc32 (schedZ c k)) ∧ Below H w wr) (fun t _ => 16 - (intOf t).toNat)
  case atStart => exact ⟨0, by omega, rfl, b1, b2, bB⟩
  case round =>
    obtain ⟨k, hk, rfl, d1, d2, dB⟩ := hrel
    clear b1 b2 bB
    by_cases hlt : k < 16
    · have key : ∀ i, i < 64 → wr.cell? (ad.add (a + i)) = some (encB (byteAt c i)) := fun i hi => by
        rw [← HCE.out i hi]
        have e : (ad.add (a + i)).block = ad.block := by first | rfl | (unfold Addr.add; split <;> rfl) | (cases ad; rfl)
        unfold World.cell?
        rw [e, dB.block _ hadH]
      have x0 : wr.cell? (ad.add (a + (4 * k))) = some (encB (byteAt c (4 * k))) := key _ (by omega)
      have x1 : wr.cell? (ad.add (a + (4 * k + 1))) = some (encB (byteAt c (4 * k + 1))) := key _ (by omega)
      have x2 : wr.cell? (ad.add (a + (4 * k + 2))) = some (encB (byteAt c (4 * k + 2))) := key _ (by omega)
      have x3 : wr.cell? (ad.add (a + (4 * k + 3))) = some (encB (byteAt c (4 * k + 3))) := key _ (by omega)
      have hw0 : IntKind.i64.wrap (4 * (k : Int)) = 4 * (k : Int) := i64_in_ _ (by omega)
      have hv0 : IntKind.i64.wrap ((a : Int) + 4 * (k : Int)) = (a : Int) + 4 * (k : Int) := i64_in_ _ (by omega)
      have hw1 : IntKind.i64.wrap ((a : Int) + 4 * (k : Int) + 1) = (a : Int) + 4 * (k : Int) + 1 := i64_in_ _ (by omega)
      have hw2 : IntKind.i64.wrap ((a : Int) + 4 * (k : Int) + 2) = (a : Int) + 4 * (k : Int) + 2 := i64_in_ _ (by omega)
      have hw3 : IntKind.i64.wrap ((a : Int) + 4 * (k : Int) + 3) = (a : Int) + 4 * (k : Int) + 3 := i64_in_ _ (by omega)
      obtain ⟨z, hz⟩ : ∃ x, (schedZ c k)[k]? = some x := ⟨_, List.getElem?_eq_getElem (by rw [schedZ_len c (by omega)]; omega)⟩
      have xz : wr.cell? ⟨H2, k, none⟩ = some (enc32 z) := (d2.cell _).trans (arr_at hz)
      have fz := d2.frozen k
      have hwd : word4 (byteAt c (4 * k)) (byteAt c (4 * k + 1)) (byteAt c (4 * k + 2)) (byteAt c (4 * k + 3)) = (if k < 16 then wordAt c k else nextW (sched c k) k) := by rw [if_pos hlt]; rfl
      clear key hz
      have i0 : (0 : Int) ≤ (a : Int) + 4 * (k : Int) ∧ (a : Int) + 4 * (k : Int) < (n : Int) := by omega
      have i1 : (0 : Int) ≤ (a : Int) + 4 * (k : Int) + 1 ∧ (a : Int) + 4 * (k : Int) + 1 < (n : Int) := by omega
      have i2 : (0 : Int) ≤ (a : Int) + 4 * (k : Int) + 2 ∧ (a : Int) + 4 * (k : Int) + 2 < (n : Int) := by omega
      have i3 : (0 : Int) ≤ (a : Int) + 4 * (k : Int) + 3 ∧ (a : Int) + 4 * (k : Int) + 3 < (n : Int) := by omega
      have i4 : (0 : Int) ≤ (k : Int) ∧ (k : Int) < 64 := by omega
      have n0 : ((a : Int) + 4 * (k : Int)).toNat = a + (4 * k) := by omega
      have n1 : ((a : Int) + 4 * (k : Int) + 1).toNat = a + (4 * k + 1) := by omega
      have n2 : ((a : Int) + 4 * (k : Int) + 2).toNat = a + (4 * k + 2) := by omega
      have n3 : ((a : Int) + 4 * (k : Int) + 3).toNat = a + (4 * k + 3) := by omega
      generalize byteAt c (4 * k) = u0 at *
      generalize byteAt c (4 * k + 1) = u1 at *
      generalize byteAt c (4 * k + 2) = u2 at *
      generalize byteAt c (4 * k + 3) = u3 at *
      have HWD := Lib.hid hwd
      clear hwd
      go_wp2_with fail
      go_still_tail 43, (by kernel_rfl)
      simp only [word4_bits]
      go_wp2
      go_roundw
      case rel =>
        have h2 := (d2.drewN 1).set_ k (enc32 (word4 u0 u1 u2 u3))
        have e2 : (schedZ c k).set k (word4 u0 u1 u2 u3) = schedZ c (k + 1) := by rw [HWD.out]; exact schedZ_set c (by omega)
        rw [arr_set, e2] at h2
        exact ⟨k + 1, by omega, by go_num, (d1.drewN 1).far (by show H1 ≠ H2; omega) _, h2, (below_drewN dB 1).setCell (by show H ≤ H2; omega) _⟩
      case measure => simp [intOf]; omega
    · obtain rfl : k = 16 := by omega
      rw [show ((16 : Nat) : Int) = 16 from rfl]
      go_wp2_with fail
      go_loopw [7] (fun t wr => ∃ k : Nat, 16 ≤ k ∧ k ≤ 64 ∧ t = .int .i64 k ∧ Blk wr H1 67 (arr enc32 zero64) ∧ Blk wr H2 67 (arr enc32 (schedZ c k)) ∧ Below H w wr) (fun t _ => 64 - (intOf t).toNat)
      case atStart => exact ⟨16, by omega, by omega, rfl, d1, d2, dB⟩
      case round =>
        obtain ⟨k, hk0, hk, rfl, e1, e2, eB⟩ := hrel
        clear d1 d2 dB
        by_cases hlt : k < 64
        · have x15 : wr.cell? ⟨H2, k - 15, none⟩ = some (enc32 (wAt (sched c k) (k - 15))) := (e2.cell _).trans (arr_at (schedZ_get c (by omega)))
          have x2 : wr.cell? ⟨H2, k - 2, none⟩ = some (enc32 (wAt (sched c k) (k - 2))) := (e2.cell _).trans (arr_at (schedZ_get c (by omega)))
          have x7 : wr.cell? ⟨H2, k - 7, none⟩ = some (enc32 (wAt (sched c k) (k - 7))) := (e2.cell _).trans (arr_at (schedZ_get c (by omega)))
          have x16 : wr.cell? ⟨H2, k - 16, none⟩ = some (enc32 (wAt (sched c k) (k - 16))) := (e2.cell _).trans (arr_at (schedZ_get c (by omega)))
          obtain ⟨z, hz⟩ : ∃ x, (schedZ c k)[k]? = some x := ⟨_, List.getElem?_eq_getElem (by rw [schedZ_len c (by omega)]; omega)⟩
          have xz : wr.cell? ⟨H2, k, none⟩ = some (enc32 z) := (e2.cell _).trans (arr_at hz)
          have fz := e2.frozen k
          have hwd : sg1 (wAt (sched c k) (k - 2)) + wAt (sched c k) (k - 7) + sg0 (wAt (sched c k) (k - 15)) + wAt (sched c k) (k - 16) = (if k < 16 then wordAt c k else nextW (sched c k) k) := by rw [if_neg (by omega)]; rfl
          have HWD := Lib.hid hwd
          have w15 : IntKind.i64.wrap ((k : Int) - 15) = (k : Int) - 15 := i64_in_ _ (by omega)
          have w2 : IntKind.i64.wrap ((k : Int) - 2) = (k : Int) - 2 := i64_in_ _ (by omega)
          have w7 : IntKind.i64.wrap ((k : Int) - 7) = (k : Int) - 7 := i64_in_ _ (by omega)
          have w16 : IntKind.i64.wrap ((k : Int) - 16) = (k : Int) - 16 := i64_in_ _ (by omega)
          have j15 : (0 : Int) ≤ (k : Int) - 15 ∧ (k : Int) - 15 < 64 := by omega
          have j2 : (0 : Int) ≤ (k : Int) - 2 ∧ (k : Int) - 2 < 64 := by omega
          have j7 : (0 : Int) ≤ (k : Int) - 7 ∧ (k : Int) - 7 < 64 := by omega
          have j16 : (0 : Int) ≤ (k : Int) - 16 ∧ (k : Int) - 16 < 64 := by omega
          have j0 : (0 : Int) ≤ (k : Int) ∧ (k : Int) < 64 := by omega
          have l15 : (15 : Int) ≤ (k : Int) := by omega
          have l2 : (2 : Int) ≤ (k : Int) := by omega
          have l7 : (7 : Int) ≤ (k : Int) := by omega
          have l16 : (16 : Int) ≤ (k : Int) := by omega
          have n15 : ((k : Int) - 15).toNat = k - 15 := by omega
          have n2 : ((k : Int) - 2).toNat = k - 2 := by omega
          have n7 : ((k : Int) - 7).toNat = k - 7 := by omega
          have n16 : ((k : Int) - 16).toNat = k - 16 := by omega
          have Hz := Lib.hid hz
          have Z7 := Lib.hid (schedZ_get c (show k - 7 < k by omega))
          have Z16 := Lib.hid (schedZ_get c (show k - 16 < k by omega))
          clear hz hwd
          generalize wAt (sched c k) (k - 15) = u15 at *
          generalize wAt (sched c k) (k - 2) = u2 at *
          generalize wAt (sched c k) (k - 7) = u7 at *
          generalize wAt (sched c k) (k - 16) = u16 at *
          go_wp2_with (go_at_call 50; (with_reducible refine (turn_z _ _ (by omega) (by omega) _).mono ?_); rintro e w' ⟨rfl, rfl⟩)
          go_still_tail 15, (by kernel_rfl)
          try simp only [u32_addw]
          go_wp2
          go_roundw
          case rel =>
            have h2 := (e2.drewN 1).set_ k (enc32 (sg1 u2 + u7 + sg0 u15 + u16))
            have ee : (schedZ c k).set k (sg1 u2 + u7 + sg0 u15 + u16) = schedZ c (k + 1) := by rw [HWD.out]; exact schedZ_set c (by omega)
            rw [arr_set, ee] at h2
            exact ⟨k + 1, by omega, by omega, by go_num, (e1.drewN 1).far (by show H1 ≠ H2; omega) _, h2, (below_drewN eB 1).setCell (by show H ≤ H2; omega) _⟩
          case measure => simp [intOf]; omega
        · obtain rfl : k = 64 := by omega
          rw [schedZ_all] at e2
          have e3 := eB
          have hln := sched_len c 64
          have Hln := Lib.hid hln
          clear hln
          go_wp2_with (first | ((with_reducible refine wpList_load_blk rfl 67 (.tmp 5) rfl H2 67 (arr enc32 (sched c 64)) ?hb rfl wTy rfl (wSz Hln.out) ?_); case hb => exact e2) | ((with_reducible refine wpList_store_blk rfl 67 (.tmp 4) (.tmp 102) rfl H1 67 (arr enc32 zero64) (arr enc32 (sched c 64)) ?hb rfl rfl (wSz Hln.out) (by rw [arr_size, arr_size, Hln.out, zero64_len]) (arr_one enc32_one _) ?_); case hb => exact e1); intro w1 hb3 hg3 hs3)
          refine bodyPost_cell rfl H1 67 _ (0, 0) _ rfl hb3 wTy rfl (wSz Hln.out) rfl ⟨rfl, ?_⟩
          have h3 := below_only e3 hg3 (show H ≤ wr.heap.size from by have := HHH.out; have := e3.size; omega) (show H ≤ H1 by omega)
          rw [HHH.out] at h3
          exact h3
end Go.Proofs.YtepikbmlhejobaaDoor
