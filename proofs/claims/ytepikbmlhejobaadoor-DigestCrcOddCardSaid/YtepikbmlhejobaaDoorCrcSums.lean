/- DigestCrcSums: of three lists of one length, the CRC of their sum is the sum of their CRCs. -/
import Derived.Test.YtepikbmlhejobaaDoorUpTo
import Derived.Test.YtepikbmlhejobaaDoorShaPub
namespace Go.Proofs.YtepikbmlhejobaaDoor
open Go.RowKit
attribute [local go_sem] u8_xor_ u32_xor_
theorem xorL_get {a b : List UInt8} {k : Nat} {x y : UInt8} (h : a[k]? = some x) (h' : b[k]? = some y) : (xorL a b)[k]? = some (x ^^^ y) := by
  unfold xorL
  rw [List.getElem?_zipWith, h, h']
theorem cell_far {w : World} {p q : Addr} (h : p.block ≠ q.block) (u : Value) : (w.setCell q u).cell? p = w.cell? p := by
  have := Below.heap_setCell w q u p.block h
  unfold World.cell?
  rw [this]
set_option maxRecDepth 20000 in
set_option maxHeartbeats 4000000 in
theorem crcSums_any (A : Option Addr) (c : Nat) (l : List UInt8) (A1 : Option Addr) (c1 : Nat) (l1 : List UInt8) (A2 : Option Addr) (c2 : Nat) (l2 : List UInt8) (n n1 n2 : Nat) (w : World)
    (hn : l.length = n) (hn1 : l1.length = n1) (hn2 : l2.length = n2) (hb : n ≤ 140737488351232) (hb1 : n1 ≤ 140737488351232) (hb2 : n2 ≤ 140737488351232)
    (h : Rd encB w A l) (h1 : Rd encB w A1 l1) (h2 : Rd encB w A2 l2) (hT : Rd enc32 w (some ⟨3, 0, none⟩) ksL) (hS : Rd enc32 w (some ⟨0, 0, none⟩) startS.list) :
    Calls Tryd.prog 11 #[.slice A n c, .slice A1 n1 c1, .slice A2 n2 c2] w fun e w' => e = .returned (.bool true) ∧ Below w.heap.size w w' := by
  have mk := mk_bytes n (by omega)
  have HT := Lib.hid hT
  have HS := Lib.hid hS
  have HP := Lib.hid h
  have HP1 := Lib.hid h1
  have HP2 := Lib.hid h2
  have HN := Lib.hid hn
  have HN1 := Lib.hid hn1
  have HN2 := Lib.hid hn2
  clear hT hS h h1 h2 hn hn1 hn2
  have g1 := Lib.hid (upTo_any A1 c1 n n1 l1 w HN1.out (by unfold maxLen; omega) (by omega) HP1.out)
  obtain ⟨x, hx⟩ : ∃ x, x = upL l1 n := ⟨_, rfl⟩
  obtain ⟨y, hy⟩ : ∃ y, y = upL l2 n := ⟨_, rfl⟩
  have HX := Lib.hid (show x.length = n by rw [hx]; exact upL_length _ _)
  have HY := Lib.hid (show y.length = n by rw [hy]; exact upL_length _ _)
  rw [← hx] at g1
  obtain ⟨X, hX⟩ : ∃ X, X = w.heap.size := ⟨_, rfl⟩
  rw [← hX] at g1 ⊢
  have HXe := Lib.hid hX
  have Hx := Lib.hid hx
  have Hy := Lib.hid hy
  clear hX hx
  go_enter Tryd.func11, Tryd.ntmps11
  go_wp2_with fail
  with_reducible refine g1.out.mono ?_
  rintro e w1 ⟨rfl, ox, B1⟩
  have g2 := Lib.hid (upTo_any A2 c2 n n2 l2 w1 HN2.out (by unfold maxLen; omega) (by omega) (HP2.out.below (by rw [← HXe.out]; exact B1)))
  rw [← hy] at g2
  obtain ⟨Y, hY⟩ : ∃ Y, Y = w1.heap.size := ⟨_, rfl⟩
  rw [← hY] at g2
  have hXY : X < Y := by rw [hY]; exact (ox.lt X rfl).2
  have HYe := Lib.hid hY
  clear g1 hY hy
  go_wp2_with fail
  with_reducible refine g2.out.mono ?_
  rintro e w2 ⟨rfl, oy, B2⟩
  obtain ⟨Z, hZ⟩ : ∃ Z, Z = w2.heap.size := ⟨_, rfl⟩
  have hYZ : Y < Z := by rw [hZ]; exact (oy.lt Y rfl).2
  have ox2 := ox.below (by rw [← HYe.out]; exact B2)
  have B02 : Below X w w2 := B1.trans (B2.mono (by omega))
  have hb0 : Blk (w2.alloc (.cells (arr encB (List.replicate n 0)) 5)) Z 5 (arr encB (List.replicate n 0)) := by rw [hZ]; exact Blk.new w2 _ _
  obtain ⟨z, hz⟩ : ∃ z, z = xorL (xorL l x) y := ⟨_, rfl⟩
  have HZL := Lib.hid (show z.length = n by rw [hz, xorL_length (by rw [xorL_length (by rw [HN.out, HX.out]), HN.out, HY.out]), xorL_length (by rw [HN.out, HX.out]), HN.out])
  have oz : Own encB 5 (w2.alloc (.cells (arr encB (List.replicate n 0)) 5)) Z (.slice (some ⟨Z, 0, none⟩) n n) (upTo_ z n 0) := by
    have hl := upTo_len z (n := n) (k := 0) (by omega) (by omega)
    have := Own.of_blk (enc := encB) (l := upTo_ z n 0) (base := Z) (cap := n) hb0 (Nat.le_refl _) (by rw [hl]; exact Nat.le_refl _) (by unfold maxLen; omega) (by rw [arr_size, List.length_replicate]) (by rw [hl, arr_list]; simp [upTo_])
    rwa [hl] at this
  have ox3 := ox2.alloc (.cells (arr encB (List.replicate n 0)) 5)
  have oy3 := oy.alloc (.cells (arr encB (List.replicate n 0)) 5)
  have B3 := B02.alloc (by rw [HXe.out]; exact B02.size) (.cells (arr encB (List.replicate n 0)) 5)
  have HZ := Lib.hid hZ
  have Hz := Lib.hid hz
  clear g2 ox oy B1 B2 ox2 B02 hb0 hZ hz
  go_wp2_with (rw [← HZ.out])
  go_loopw [10] (fun i wr => ∃ k : Nat, k ≤ n ∧ i = .int .i64 k ∧ Own encB 5 wr X (.slice (some ⟨X, 0, none⟩) n n) x ∧ Own encB 5 wr Y (.slice (some ⟨Y, 0, none⟩) n n) y ∧ Own encB 5 wr Z (.slice (some ⟨Z, 0, none⟩) n n) (upTo_ z n k) ∧ Below X w wr) (fun i _ => n - (intOf i).toNat)
  case atStart => exact ⟨0, by omega, rfl, ox3, oy3, oz, B3⟩
  case round =>
    obtain ⟨k, hk, rfl, px, py, pz, hB⟩ := hrel
    clear ox3 oy3 oz B3 mk
    by_cases hlt : k < n
    · obtain ⟨a, ha⟩ : ∃ a, l[k]? = some a := ⟨_, List.getElem?_eq_getElem (by rw [HN.out]; exact hlt)⟩
      obtain ⟨ad, e, hcell⟩ := (HP.out.below (by rw [← HXe.out]; exact hB)) k a ha
      subst e
      have hlX : ad.block < X := by
        obtain ⟨ad', e', hlt'⟩ := HP.out.blk_lt (by intro e; rw [e] at ha; simp at ha)
        cases e'
        rw [HXe.out]; exact hlt'
      obtain ⟨b, hb', hcx, hfx⟩ := px.at_ hlt
      obtain ⟨d, hd, hcy, hfy⟩ := py.at_ hlt
      obtain ⟨q, hq, hcz, hfz⟩ := pz.at_ hlt
      have hzk := Lib.hid (show z[k]? = some (a ^^^ b ^^^ d) by rw [Hz.out]; exact xorL_get (xorL_get ha hb') hd)
      have hi1 : (k : Int) < (n : Int) := by omega
      clear ha hb' hd hq
      have kk : ∀ u, (wr.setCell ⟨Z, k, none⟩ u).drew.cell? (ad.add k) = some (encB a) ∧ (wr.setCell ⟨Z, k, none⟩ u).drew.cell? ⟨X, k, none⟩ = some (encB b) ∧ (wr.setCell ⟨Z, k, none⟩ u).drew.cell? ⟨Y, k, none⟩ = some (encB d) := fun u =>
        ⟨(cell_far (w := wr) (p := ad.add k) (q := ⟨Z, k, none⟩) (by have e : (ad.add k).block = ad.block := (by first | rfl | (unfold Addr.add; split <;> rfl) | (cases ad; rfl)); rw [e]; show ad.block ≠ Z; omega) u).trans hcell, (cell_far (w := wr) (p := ⟨X, k, none⟩) (q := ⟨Z, k, none⟩) (show X ≠ Z by omega) u).trans hcx, (cell_far (w := wr) (p := ⟨Y, k, none⟩) (q := ⟨Z, k, none⟩) (show Y ≠ Z by omega) u).trans hcy⟩
      have KK := Lib.hid kk
      clear kk
      go_wp2_with fail
      go_region_held3 (fun w' => w'.cell? (ad.add k) = some (encB a) ∧ w'.cell? ⟨X, k, none⟩ = some (encB b) ∧ w'.cell? ⟨Y, k, none⟩ = some (encB d)) (first | exact KK.out _ | exact (KK.out _).1 | exact (KK.out _).2.1 | exact (KK.out _).2.2 | go_keep) (fail)
      go_wp2
      go_roundw
      case rel =>
        have h2 := pz.set_ k (a ^^^ b ^^^ d)
        rw [upTo_set hzk.out hlt] at h2
        exact ⟨k + 1, by omega, by go_num, (px.far (p := ⟨Z, k, none⟩) (by show some X ≠ some Z; intro e; cases e; omega) _).drewN 1, (py.far (p := ⟨Z, k, none⟩) (by show some Y ≠ some Z; intro e; cases e; omega) _).drewN 1, h2.drewN 1, below_drewN (hB.setCell (by show X ≤ Z; omega) _) 1⟩
      case measure => simp [intOf]; omega
    · obtain rfl : k = n := by omega
      have ez : upTo_ z k k = z := by unfold upTo_; rw [List.take_of_length_le (by rw [HZL.out]; omega), Nat.sub_self]; simp
      rw [ez] at pz
      have BW : Below w.heap.size w wr := by rw [← HXe.out]; exact hB
      have hP := Lib.hid (published_any wr (HT.out.below BW) (HS.out.below BW))
      have BWh := Lib.hid BW
      clear BW hB ez
      go_wp2_with fail
      with_reducible refine hP.out.mono ?_
      rintro e w4 ⟨rfl, hB4⟩
      have qx := px.below hB4
      have qy := py.below hB4
      have qz := pz.below hB4
      have B4 := Lib.hid (BWh.out.trans (hB4.mono BWh.out.size))
      have k1 := Lib.hid (crc_n (some ⟨Z, 0, none⟩) k k z w4 HZL.out (by unfold maxLen; omega) qz.rd)
      have k2 := Lib.hid (copied_n A c k l w4 HN.out (by omega) (HP.out.below B4.out))
      clear hP px py pz hB4
      go_wp2_with fail
      with_reducible refine k1.out.mono ?_
      rintro e w5 ⟨rfl, rfl⟩
      go_wp2_with fail
      with_reducible refine k2.out.mono ?_
      rintro e w6 ⟨v, rfl, ov, hB6⟩
      obtain ⟨A6, c6, hv, hc6, r6, _⟩ := ov.slice
      subst hv
      have rx := Lib.hid (qx.below hB6).rd
      have ry := Lib.hid (qy.below hB6).rd
      have B6 := Lib.hid (B4.out.trans (hB6.mono B4.out.size))
      rw [HN.out]
      have k3 := Lib.hid (crc_n A6 c6 k l w6 HN.out (by unfold maxLen; omega) r6)
      have k4 := Lib.hid (crc_n (some ⟨X, 0, none⟩) k k x w6 HX.out (by unfold maxLen; omega) rx.out)
      have k5 := Lib.hid (crc_n (some ⟨Y, 0, none⟩) k k y w6 HY.out (by unfold maxLen; omega) ry.out)
      clear k1 k2 qx qy qz ov hB6 r6 hc6
      go_wp2_with fail
      with_reducible refine k3.out.mono ?_
      rintro e w7 ⟨rfl, rfl⟩
      go_wp2_with fail
      with_reducible refine k4.out.mono ?_
      rintro e w7 ⟨rfl, rfl⟩
      go_wp2_with fail
      with_reducible refine k5.out.mono ?_
      rintro e w7 ⟨rfl, rfl⟩
      have ef : crcMore 0 z = crcMore 0 l ^^^ crcMore 0 x ^^^ crcMore 0 y := by rw [Hz.out]; exact crc_sum l x y (by rw [HN.out, HX.out]) (by rw [HN.out, HY.out])
      have eb : (v32 (crcMore 0 z) == v32 (crcMore 0 l ^^^ crcMore 0 x ^^^ crcMore 0 y)) = true := by rw [v32_beq]; exact decide_eq_true ef
      clear ef
      go_wp2_with fail
      go_ret
      exact ⟨rfl, by have := B6.out; simpa [HXe.out] using this⟩
end Go.Proofs.YtepikbmlhejobaaDoor
