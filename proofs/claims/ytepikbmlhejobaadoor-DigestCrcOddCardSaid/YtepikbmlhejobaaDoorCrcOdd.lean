/- DigestCrcOdd: two lists of one length that differ in an odd number of bits have different CRCs. -/
import Derived.Test.YtepikbmlhejobaaDoorCrcSums
import Derived.Test.YtepikbmlhejobaaDoorOnes
namespace Go.Proofs.YtepikbmlhejobaaDoor
open Go.RowKit
attribute [local go_sem] u8_xor_ u32_xor_
set_option maxRecDepth 20000 in
set_option maxHeartbeats 4000000 in
theorem crcOdd_any (A : Option Addr) (c : Nat) (l : List UInt8) (A1 : Option Addr) (c1 : Nat) (l1 : List UInt8) (n n1 : Nat) (w : World)
    (hn : l.length = n) (hn1 : l1.length = n1) (hb : n ≤ 140737488351232) (hb1 : n1 ≤ 140737488351232)
    (h : Rd encB w A l) (h1 : Rd encB w A1 l1) (hT : Rd enc32 w (some ⟨3, 0, none⟩) ksL) (hS : Rd enc32 w (some ⟨0, 0, none⟩) startS.list) :
    Calls Tryd.prog 10 #[.slice A n c, .slice A1 n1 c1] w fun e w' => e = .returned (.bool true) ∧ Below w.heap.size w w' := by
  have mk := mk_bytes n (by omega)
  have HP := Lib.hid h
  have HP1 := Lib.hid h1
  have HN := Lib.hid hn
  have HN1 := Lib.hid hn1
  have g0 := Lib.hid (published_any w hT hS)
  clear hT hS h h1 hn hn1
  obtain ⟨x, hx⟩ : ∃ x, x = upL l1 n := ⟨_, rfl⟩
  have HX := Lib.hid (show x.length = n by rw [hx]; exact upL_length _ _)
  have Hx := Lib.hid hx
  clear hx
  go_enter Tryd.func10, Tryd.ntmps10
  go_wp2_with fail
  with_reducible refine g0.out.mono ?_
  rintro e w0 ⟨rfl, B0⟩
  have g1 := Lib.hid (upTo_any A1 c1 n n1 l1 w0 HN1.out (by unfold maxLen; omega) (by omega) (HP1.out.below B0))
  rw [← Hx.out] at g1
  obtain ⟨X, hX⟩ : ∃ X, X = w0.heap.size := ⟨_, rfl⟩
  rw [← hX] at g1
  have hwX : w.heap.size ≤ X := by rw [hX]; exact B0.size
  have HXe := Lib.hid hX
  have HB0 := Lib.hid B0
  clear hX g0 B0
  go_wp2_with fail
  with_reducible refine g1.out.mono ?_
  rintro e w2 ⟨rfl, ox, B1⟩
  obtain ⟨Z, hZ⟩ : ∃ Z, Z = w2.heap.size := ⟨_, rfl⟩
  have hXZ : X < Z := by rw [hZ]; exact (ox.lt X rfl).2
  have B02 : Below w.heap.size w w2 := HB0.out.trans (B1.mono hwX)
  have hb0 : Blk (w2.alloc (.cells (arr encB (List.replicate n 0)) 5)) Z 5 (arr encB (List.replicate n 0)) := by rw [hZ]; exact Blk.new w2 _ _
  obtain ⟨z, hz⟩ : ∃ z, z = xorL l x := ⟨_, rfl⟩
  have HZL := Lib.hid (show z.length = n by rw [hz, xorL_length (by rw [HN.out, HX.out]), HN.out])
  have oz : Own encB 5 (w2.alloc (.cells (arr encB (List.replicate n 0)) 5)) Z (.slice (some ⟨Z, 0, none⟩) n n) (upTo_ z n 0) := by
    have hl := upTo_len z (n := n) (k := 0) (by omega) (by omega)
    have := Own.of_blk (enc := encB) (l := upTo_ z n 0) (base := Z) (cap := n) hb0 (Nat.le_refl _) (by rw [hl]; exact Nat.le_refl _) (by unfold maxLen; omega) (by rw [arr_size, List.length_replicate]) (by rw [hl, arr_list]; simp [upTo_])
    rwa [hl] at this
  have ox3 := ox.alloc (.cells (arr encB (List.replicate n 0)) 5)
  have B3 := B02.alloc B02.size (.cells (arr encB (List.replicate n 0)) 5)
  have HZ := Lib.hid hZ
  have Hz := Lib.hid hz
  clear g1 ox B1 B02 hb0 hZ hz
  go_wp2_with (rw [← HZ.out])
  go_loopw [7] (fun i wr => ∃ k : Nat, k ≤ n ∧ i = .int .i64 k ∧ Own encB 5 wr X (.slice (some ⟨X, 0, none⟩) n n) x ∧ Own encB 5 wr Z (.slice (some ⟨Z, 0, none⟩) n n) (upTo_ z n k) ∧ Below w.heap.size w wr) (fun i _ => n - (intOf i).toNat)
  case atStart => exact ⟨0, by omega, rfl, ox3, oz, B3⟩
  case round =>
    obtain ⟨k, hk, rfl, px, pz, hB⟩ := hrel
    clear ox3 oz B3 mk
    by_cases hlt : k < n
    · obtain ⟨a, ha⟩ : ∃ a, l[k]? = some a := ⟨_, List.getElem?_eq_getElem (by rw [HN.out]; exact hlt)⟩
      obtain ⟨ad, e, hcell⟩ := (HP.out.below hB) k a ha
      subst e
      have hlX : ad.block < w.heap.size := by
        obtain ⟨ad', e', hlt'⟩ := HP.out.blk_lt (by intro e; rw [e] at ha; simp at ha)
        cases e'
        exact hlt'
      obtain ⟨b, hb', hcx, hfx⟩ := px.at_ hlt
      obtain ⟨q, hq, hcz, hfz⟩ := pz.at_ hlt
      have hzk := Lib.hid (show z[k]? = some (a ^^^ b) by rw [Hz.out]; exact xorL_get ha hb')
      have hi1 : (k : Int) < (n : Int) := by omega
      clear ha hb' hq
      have kk : ∀ u, (wr.setCell ⟨Z, k, none⟩ u).drew.cell? (ad.add k) = some (encB a) ∧ (wr.setCell ⟨Z, k, none⟩ u).drew.cell? ⟨X, k, none⟩ = some (encB b) := fun u =>
        ⟨(cell_far (w := wr) (p := ad.add k) (q := ⟨Z, k, none⟩) (by have e : (ad.add k).block = ad.block := (by first | rfl | (unfold Addr.add; split <;> rfl) | (cases ad; rfl)); rw [e]; show ad.block ≠ Z; omega) u).trans hcell, (cell_far (w := wr) (p := ⟨X, k, none⟩) (q := ⟨Z, k, none⟩) (show X ≠ Z by omega) u).trans hcx⟩
      have KK := Lib.hid kk
      clear kk
      go_wp2_with fail
      go_region_held3 (fun w' => w'.cell? (ad.add k) = some (encB a) ∧ w'.cell? ⟨X, k, none⟩ = some (encB b)) (first | exact KK.out _ | exact (KK.out _).1 | exact (KK.out _).2 | go_keep) (fail)
      go_wp2
      go_roundw
      case rel =>
        have h2 := pz.set_ k (a ^^^ b)
        rw [upTo_set hzk.out hlt] at h2
        exact ⟨k + 1, by omega, by go_num, (px.far (p := ⟨Z, k, none⟩) (by show some X ≠ some Z; intro e; cases e; omega) _).drewN 1, h2.drewN 1, below_drewN (hB.setCell (by show w.heap.size ≤ Z; omega) _) 1⟩
      case measure => simp [intOf]; omega
    · obtain rfl : k = n := by omega
      have ez : upTo_ z k k = z := by unfold upTo_; rw [List.take_of_length_le (by rw [HZL.out]; omega), Nat.sub_self]; simp
      rw [ez] at pz
      have k0 := Lib.hid (ones_any (some ⟨Z, 0, none⟩) k k z wr HZL.out (by omega) pz.rd)
      have k2 := Lib.hid (copied_n A c k l wr HN.out (by omega) (HP.out.below hB))
      have HB := Lib.hid hB
      obtain ⟨m, hm⟩ : ∃ m, m = onesL z := ⟨_, rfl⟩
      rw [← hm] at k0
      have hm8 : m ≤ 8 * k := by rw [hm]; have := onesL_le z; rw [HZL.out] at this; exact this
      have HM := Lib.hid hm
      clear hB ez hm
      go_wp2_with fail
      with_reducible refine k0.out.mono ?_
      rintro e w4 ⟨rfl, rfl⟩
      by_cases hod : m % 2 = 1
      · have o2 : ((m : Int) % 2 == 0) = false := by rw [beq_eq_false_iff_ne]; omega
        go_wp2_with fail
        with_reducible refine k2.out.mono ?_
        rintro e w6 ⟨v, rfl, ov, hB6⟩
        obtain ⟨A6, c6, hv, hc6, r6, _⟩ := ov.slice
        subst hv
        have rx := Lib.hid (px.below hB6).rd
        have B6 := Lib.hid (HB.out.trans (hB6.mono HB.out.size))
        rw [HN.out]
        have k3 := Lib.hid (crc_n A6 c6 k l w6 HN.out (by unfold maxLen; omega) r6)
        have k4 := Lib.hid (crc_n (some ⟨X, 0, none⟩) k k x w6 HX.out (by unfold maxLen; omega) rx.out)
        clear k0 k2 px pz ov hB6 r6 hc6
        go_wp2_with fail
        with_reducible refine k3.out.mono ?_
        rintro e w7 ⟨rfl, rfl⟩
        go_wp2_with fail
        with_reducible refine k4.out.mono ?_
        rintro e w7 ⟨rfl, rfl⟩
        have ef : crcMore 0 l ≠ crcMore 0 x := crc_odd (by rw [HN.out, HX.out]) (by rw [← Hz.out, ← HM.out]; exact hod)
        have eb : (v32 (crcMore 0 l) != v32 (crcMore 0 x)) = true := by rw [bne_iff_ne]; exact fun h => ef (v32_inj h)
        clear ef
        go_wp2_with fail
        go_ret
        exact ⟨rfl, B6.out⟩
      · have o2 : ((m : Int) % 2 == 0) = true := by rw [beq_iff_eq]; omega
        go_wp2_with fail
        go_ret
        exact ⟨rfl, HB.out⟩
end Go.Proofs.YtepikbmlhejobaaDoor
