/- DigestPieces and its neighbours: published: the published answers hold. -/
import Derived.Test.YtepikbmlhejobaaDoorShaK
import Derived.Test.YtepikbmlhejobaaDoorShaMac
import Derived.Lib.SlBytesConst
namespace Go.Proofs.YtepikbmlhejobaaDoor
open Go.RowKit
def msgAbc : List UInt8 := [97, 98, 99]
def keyJefe : List UInt8 := [74, 101, 102, 101]
def msgJefe : List UInt8 := [119, 104, 97, 116, 32, 100, 111, 32, 121, 97, 32, 119, 97, 110, 116, 32, 102, 111, 114, 32, 110, 111, 116, 104, 105, 110, 103, 63]
def msgNums : List UInt8 := [49, 50, 51, 52, 53, 54, 55, 56, 57]
theorem ev_abc : hexOf (digestL ksL startS msgAbc) = hexAbc := by decide +kernel
theorem ev_jefe : hexOf (macL ksL startS keyJefe msgJefe) = hexJefe := by decide +kernel
theorem ev_nums : crcMore 0 msgNums = 3808858755 := by decide +kernel
section
variable (ks : List UInt32) (hk : ks.length = 64) (s0 : S8)
include hk
theorem sum256_n (A : Option Addr) (c n : Nat) (l : List UInt8) (w : World) (hn : l.length = n) (hl : n ≤ c) (hc : c ≤ 9223372036854775807) (hl2 : n < 1152921504606846976) (hp : Rd encB w A l) (hT : Rd enc32 w (some ⟨3, 0, none⟩) ks) (hS : Rd enc32 w (some ⟨0, 0, none⟩) s0.list) :
    Calls Tryd.prog 25 #[.slice A n c] w fun e w' => e = .returned (.agg (arr encB (digestL ks s0 l))) ∧ Below w.heap.size w w' := by
  subst hn; exact sum256_any ks hk s0 A c l w hl hc hl2 hp hT hS
theorem mac_n (A B : Option Addr) (c d n m : Nat) (key msg : List UInt8) (w : World) (hn : key.length = n) (hm0 : msg.length = m) (hl : n ≤ c) (hc : c ≤ 9223372036854775807) (hl2 : n < 576460752303423488) (hp : Rd encB w A key)
    (hm : m ≤ d) (hd : d ≤ 9223372036854775807) (hm2 : m < 576460752303423488) (hq : Rd encB w B msg) (hT : Rd enc32 w (some ⟨3, 0, none⟩) ks) (hS : Rd enc32 w (some ⟨0, 0, none⟩) s0.list) :
    Calls Tryd.prog 28 #[.slice A n c, .slice B m d] w fun e w' => e = .returned (.agg (arr encB (macL ks s0 key msg))) ∧ Below w.heap.size w w' := by
  subst hn; subst hm0; exact mac_any ks hk s0 A B c d key msg w hl hc hl2 hp hm hd hm2 hq hT hS
end
theorem rd_new (w : World) (l : List UInt8) (fr : Nat × Nat) : Rd encB (w.alloc (.cells (arr encB l) 5 fr)) (some ⟨w.heap.size, 0, none⟩) l := fun i x hx => ⟨_, rfl, by
  rw [add_lit_, Nat.zero_add]
  have e : (w.alloc (.cells (arr encB l) 5 fr)).heap[w.heap.size]? = some (.cells (arr encB l) 5 fr) := by
    show (w.heap.push _)[w.heap.size]? = _
    rw [Array.getElem?_push_size]
  unfold World.cell?
  rw [e]
  exact arr_at hx⟩
set_option maxRecDepth 20000 in
set_option maxHeartbeats 2000000 in
theorem published_any (w : World) (hT : Rd enc32 w (some ⟨3, 0, none⟩) ksL) (hS : Rd enc32 w (some ⟨0, 0, none⟩) startS.list) :
    Calls Tryd.prog 30 #[] w fun e w' => e = .returned (.bool true) ∧ Below w.heap.size w w' := by
  have z1 := zeroA32
  have kc := fun (w : World) (C : Array Value) (n c : Nat) => Lib.run_convert_bytes_const (P := Tryd.prog) w 27 5 C n c Tryd.underlying27 Tryd.underlying5
  have HT := Lib.hid hT
  have HS := Lib.hid hS
  have h3 : 3 < w.heap.size := by
    obtain ⟨ad, e, hlt⟩ := hT.blk_lt (by intro e; cases e)
    cases e
    exact hlt
  clear hT hS
  have g1 := Lib.hid (sum256_n ksL ksL_len startS none 0 0 [] w rfl (Nat.le_refl _) (by simp) (by simp) (fun i x hx => by simp at hx) HT.out HS.out)
  obtain ⟨D1, hD1⟩ : ∃ D, D = digestL ksL startS [] := ⟨_, rfl⟩
  obtain ⟨D2, hD2⟩ : ∃ D, D = digestL ksL startS msgAbc := ⟨_, rfl⟩
  obtain ⟨D3, hD3⟩ : ∃ D, D = macL ksL startS keyJefe msgJefe := ⟨_, rfl⟩
  have HN1 := Lib.hid (show D1.length = 32 by rw [hD1]; exact digestL_len _ _ _)
  have HN2 := Lib.hid (show D2.length = 32 by rw [hD2]; exact digestL_len _ _ _)
  have HN3 := Lib.hid (show D3.length = 32 by rw [hD3]; exact digestL_len _ _ _)
  have HE1 := Lib.hid (show hexOf D1 = hexNone by rw [hD1]; exact ev_none)
  have HE2 := Lib.hid (show hexOf D2 = hexAbc by rw [hD2]; exact ev_abc)
  have HE3 := Lib.hid (show hexOf D3 = hexJefe by rw [hD3]; exact ev_jefe)
  have HD1 := Lib.hid hD1
  have HD2 := Lib.hid hD2
  have HD3 := Lib.hid hD3
  clear hD1 hD2 hD3
  rw [← HD1.out] at g1
  have B0 := Lib.hid (Below.refl w.heap.size w)
  go_enter Tryd.func30, Tryd.ntmps30
  go_wp2_with fail
  with_reducible refine g1.out.mono ?_
  rintro e w1 ⟨rfl, hB1⟩
  clear g1
  obtain ⟨R1, hR1⟩ : ∃ R, R = w1.heap.size := ⟨_, rfl⟩
  have HR1 := Lib.hid hR1
  have g0 : Blk (w1.alloc (.cells (arr encB zero32) 36)) R1 36 (arr encB zero32) := by rw [HR1.out]; exact Blk.new w1 _ _
  have C1 := B0.out.trans (hB1.mono B0.out.size)
  have lR1 : w.heap.size ≤ R1 := by rw [HR1.out]; exact C1.size
  have HB1 := Lib.hid (C1.alloc C1.size (.cells (arr encB zero32) 36))
  clear hR1 hB1 C1 B0
  go_wp2_with (first
    | rw [← HR1.out]
    | ((with_reducible refine wpList_store_blk rfl 36 (.tmp 1) (.tmp 5) rfl R1 36 (arr encB zero32) (arr encB D1) ?hb rfl rfl (arrSz HN1.out) ?hl (arr_one encB_one _) ?_); (case hb => exact g0); (case hl => rw [arr_size, arr_size, zero32_len, HN1.out]); intro v1 b1 hg1 hs1; clear hs1))
  clear g0
  have B1 := Lib.hid (below_only HB1.out hg1 HB1.out.size lR1)
  clear HB1 hg1
  have M1 : Rd encB (v1.alloc (.cells (arr encB msgAbc) 5 (3, 4))) (some ⟨v1.heap.size, 0, none⟩) msgAbc := rd_new v1 _ _
  have B1a := B1.out.alloc B1.out.size (.cells (arr encB msgAbc) 5 (3, 4))
  have b1 := b1.alloc (.cells (arr encB msgAbc) 5 (3, 4))
  have g2 := Lib.hid (sum256_n ksL ksL_len startS (some ⟨v1.heap.size, 0, none⟩) 3 3 msgAbc _ rfl (by omega) (by omega) (by omega) M1 (HT.out.below B1a) (HS.out.below B1a))
  rw [← HD2.out] at g2
  have B1 := Lib.hid B1a
  obtain ⟨u1, hu1⟩ : ∃ u, u = v1.alloc (.cells (arr encB msgAbc) 5 (3, 4)) := ⟨_, rfl⟩
  rw [← hu1] at b1 g2 B1
  have HU1 := Lib.hid (show u1 = v1.alloc (.cells #[.int .u8 97, .int .u8 98, .int .u8 99] 5 (3, 4)) from hu1)
  clear M1 B1a hu1
  go_wp2_with (rw [← HU1.out])
  with_reducible refine g2.out.mono ?_
  rintro e w2 ⟨rfl, hB2⟩
  clear g2
  obtain ⟨R2, hR2⟩ : ∃ R, R = w2.heap.size := ⟨_, rfl⟩
  have HR2 := Lib.hid hR2
  have g0 : Blk (w2.alloc (.cells (arr encB zero32) 36)) R2 36 (arr encB zero32) := by rw [HR2.out]; exact Blk.new w2 _ _
  have C2 := B1.out.trans (hB2.mono B1.out.size)
  have lR2 : w.heap.size ≤ R2 := by rw [HR2.out]; exact C2.size
  have b1x := b1.below hB2 b1.lt
  have r1_2 : R1 < R2 := by rw [HR2.out]; exact b1x.lt
  have b1 := b1x.alloc (.cells (arr encB zero32) 36)
  clear b1x
  have HB2 := Lib.hid (C2.alloc C2.size (.cells (arr encB zero32) 36))
  clear hR2 hB2 C2 B1
  go_wp2_with (first
    | rw [← HR2.out]
    | ((with_reducible refine wpList_store_blk rfl 36 (.tmp 2) (.tmp 8) rfl R2 36 (arr encB zero32) (arr encB D2) ?hb rfl rfl (arrSz HN2.out) ?hl (arr_one encB_one _) ?_); (case hb => exact g0); (case hl => rw [arr_size, arr_size, zero32_len, HN2.out]); intro v2 b2 hg2 hs2; clear hs2))
  clear g0
  have b1 := b1.grown hg2 (by intro e; cases e; omega)
  have B2 := Lib.hid (below_only HB2.out hg2 HB2.out.size lR2)
  clear HB2 hg2
  have M1 : Rd encB ((v2.alloc (.cells (arr encB keyJefe) 5 (4, 5))).alloc (.cells (arr encB msgJefe) 5 (28, 29))) (some ⟨v2.heap.size, 0, none⟩) keyJefe := (rd_new v2 _ _).below ((Below.refl _ _).alloc (Nat.le_refl _) _)
  have M2 : Rd encB ((v2.alloc (.cells (arr encB keyJefe) 5 (4, 5))).alloc (.cells (arr encB msgJefe) 5 (28, 29))) (some ⟨v2.heap.size + 1, 0, none⟩) msgJefe := by
    have := rd_new (v2.alloc (.cells (arr encB keyJefe) 5 (4, 5))) msgJefe (28, 29)
    rwa [World.size_alloc] at this
  have B2a := B2.out.alloc B2.out.size (.cells (arr encB keyJefe) 5 (4, 5))
  have B2b := B2a.alloc B2a.size (.cells (arr encB msgJefe) 5 (28, 29))
  have b1 := (b1.alloc (.cells (arr encB keyJefe) 5 (4, 5))).alloc (.cells (arr encB msgJefe) 5 (28, 29))
  have b2 := (b2.alloc (.cells (arr encB keyJefe) 5 (4, 5))).alloc (.cells (arr encB msgJefe) 5 (28, 29))
  have g3 := Lib.hid (mac_n ksL ksL_len startS (some ⟨v2.heap.size, 0, none⟩) (some ⟨v2.heap.size + 1, 0, none⟩) 4 28 4 28 keyJefe msgJefe _ rfl rfl (by omega) (by omega) (by omega) M1 (by omega) (by omega) (by omega) M2 (HT.out.below B2b) (HS.out.below B2b))
  rw [← HD3.out] at g3
  have B2 := Lib.hid B2b
  obtain ⟨u2, hu2⟩ : ∃ u, u = (v2.alloc (.cells (arr encB keyJefe) 5 (4, 5))).alloc (.cells (arr encB msgJefe) 5 (28, 29)) := ⟨_, rfl⟩
  rw [← hu2] at b1 b2 g3 B2
  have HU2 := Lib.hid (show u2 = (v2.alloc (.cells #[.int .u8 74, .int .u8 101, .int .u8 102, .int .u8 101] 5 (4, 5))).alloc (.cells #[.int .u8 119, .int .u8 104, .int .u8 97, .int .u8 116, .int .u8 32, .int .u8 100, .int .u8 111, .int .u8 32, .int .u8 121, .int .u8 97, .int .u8 32, .int .u8 119, .int .u8 97, .int .u8 110, .int .u8 116, .int .u8 32, .int .u8 102, .int .u8 111, .int .u8 114, .int .u8 32, .int .u8 110, .int .u8 111, .int .u8 116, .int .u8 104, .int .u8 105, .int .u8 110, .int .u8 103, .int .u8 63] 5 (28, 29)) from hu2)
  clear M1 M2 B2a B2b hu2
  have kc2 : (convert 27 27 (.slice (some ⟨v2.heap.size + 1, 0, none⟩) 28 28)).run Tryd.prog ((v2.alloc (.cells #[.int .u8 74, .int .u8 101, .int .u8 102, .int .u8 101] 5 (4, 5))).alloc (.cells #[.int .u8 119, .int .u8 104, .int .u8 97, .int .u8 116, .int .u8 32, .int .u8 100, .int .u8 111, .int .u8 32, .int .u8 121, .int .u8 97, .int .u8 32, .int .u8 119, .int .u8 97, .int .u8 110, .int .u8 116, .int .u8 32, .int .u8 102, .int .u8 111, .int .u8 114, .int .u8 32, .int .u8 110, .int .u8 111, .int .u8 116, .int .u8 104, .int .u8 105, .int .u8 110, .int .u8 103, .int .u8 63] 5)) = .ok (.slice (some ⟨v2.heap.size + 1, 0, none⟩) 28 28) u2 := by
    rw [HU2.out]
    have := kc (v2.alloc (.cells #[.int .u8 74, .int .u8 101, .int .u8 102, .int .u8 101] 5 (4, 5))) #[.int .u8 119, .int .u8 104, .int .u8 97, .int .u8 116, .int .u8 32, .int .u8 100, .int .u8 111, .int .u8 32, .int .u8 121, .int .u8 97, .int .u8 32, .int .u8 119, .int .u8 97, .int .u8 110, .int .u8 116, .int .u8 32, .int .u8 102, .int .u8 111, .int .u8 114, .int .u8 32, .int .u8 110, .int .u8 111, .int .u8 116, .int .u8 104, .int .u8 105, .int .u8 110, .int .u8 103, .int .u8 63] 28 28
    rw [World.size_alloc] at this
    exact this
  go_wp2_with (first | rw [kc2])
  with_reducible refine g3.out.mono ?_
  rintro e w3 ⟨rfl, hB3⟩
  clear g3
  obtain ⟨R3, hR3⟩ : ∃ R, R = w3.heap.size := ⟨_, rfl⟩
  have HR3 := Lib.hid hR3
  have g0 : Blk (w3.alloc (.cells (arr encB zero32) 36)) R3 36 (arr encB zero32) := by rw [HR3.out]; exact Blk.new w3 _ _
  have C3 := B2.out.trans (hB3.mono B2.out.size)
  have lR3 : w.heap.size ≤ R3 := by rw [HR3.out]; exact C3.size
  have b1x := b1.below hB3 b1.lt
  have r1_3 : R1 < R3 := by rw [HR3.out]; exact b1x.lt
  have b1 := b1x.alloc (.cells (arr encB zero32) 36)
  clear b1x
  have b2x := b2.below hB3 b2.lt
  have r2_3 : R2 < R3 := by rw [HR3.out]; exact b2x.lt
  have b2 := b2x.alloc (.cells (arr encB zero32) 36)
  clear b2x
  have HB3 := Lib.hid (C3.alloc C3.size (.cells (arr encB zero32) 36))
  clear hR3 hB3 C3 B2
  go_wp2_with (first
    | rw [← HR3.out]
    | ((with_reducible refine wpList_store_blk rfl 36 (.tmp 3) (.tmp 13) rfl R3 36 (arr encB zero32) (arr encB D3) ?hb rfl rfl (arrSz HN3.out) ?hl (arr_one encB_one _) ?_); (case hb => exact g0); (case hl => rw [arr_size, arr_size, zero32_len, HN3.out]); intro v3 b3 hg3 hs3; clear hs3))
  clear g0
  have b1 := b1.grown hg3 (by intro e; cases e; omega)
  have b2 := b2.grown hg3 (by intro e; cases e; omega)
  have B3 := Lib.hid (below_only HB3.out hg3 HB3.out.size lR3)
  clear HB3 hg3
  have M1 : Rd encB (v3.alloc (.cells (arr encB msgNums) 5 (9, 10))) (some ⟨v3.heap.size, 0, none⟩) msgNums := rd_new v3 _ _
  have B3a := B3.out.alloc B3.out.size (.cells (arr encB msgNums) 5 (9, 10))
  have b1 := b1.alloc (.cells (arr encB msgNums) 5 (9, 10))
  have b2 := b2.alloc (.cells (arr encB msgNums) 5 (9, 10))
  have b3 := b3.alloc (.cells (arr encB msgNums) 5 (9, 10))
  have g4 := Lib.hid (crc_n (some ⟨v3.heap.size, 0, none⟩) 9 9 msgNums _ rfl (by decide) M1)
  have B4 := Lib.hid B3a
  obtain ⟨v4, hv4⟩ : ∃ v, v = v3.alloc (.cells (arr encB msgNums) 5 (9, 10)) := ⟨_, rfl⟩
  rw [← hv4] at b1 b2 b3 g4 B4
  have HV4 := Lib.hid (show v4 = v3.alloc (.cells #[.int .u8 49, .int .u8 50, .int .u8 51, .int .u8 52, .int .u8 53, .int .u8 54, .int .u8 55, .int .u8 56, .int .u8 57] 5 (9, 10)) from hv4)
  clear M1 B3a hv4
  go_wp2_with (rw [← HV4.out])
  with_reducible refine g4.out.mono ?_
  rintro e v5 ⟨rfl, rfl⟩
  clear g4
  have HC := Lib.hid ev_nums
  rw [HC.out]
  have HH1 := Lib.hid (hex_any D1 v4 HN1.out)
  go_wp2_with (first
    | ((with_reducible refine wpList_load_blk rfl 36 (.tmp 1) rfl R1 36 (arr encB D1) ?hb rfl arrTy rfl (arrSz HN1.out) ?_); (case hb => exact b1)))
  with_reducible refine HH1.out.mono ?_
  rintro e v6 ⟨rfl, hB6⟩
  rw [HE1.out]
  have e1 : (strOf hexNone).toList = [101, 51, 98, 48, 99, 52, 52, 50, 57, 56, 102, 99, 49, 99, 49, 52, 57, 97, 102, 98, 102, 52, 99, 56, 57, 57, 54, 102, 98, 57, 50, 52, 50, 55, 97, 101, 52, 49, 101, 52, 54, 52, 57, 98, 57, 51, 52, 99, 97, 52, 57, 53, 57, 57, 49, 98, 55, 56, 53, 50, 98, 56, 53, 53] := ByteArray.toList_eq _
  have b2 := b2.below hB6 b2.lt
  have b3 := b3.below hB6 b3.lt
  have B6 := Lib.hid (B4.out.trans (hB6.mono B4.out.size))
  have HH2 := Lib.hid (hex_any D2 v6 HN2.out)
  clear HH1 hB6 b1
  go_wp2_with (first
    | ((refine wpList_on (by rfl) ?_); (with_reducible refine wpList_load_blk rfl 36 (.tmp 2) rfl R2 36 (arr encB D2) ?hb rfl arrTy rfl (arrSz HN2.out) ?_); (case hb => exact b2)))
  with_reducible refine HH2.out.mono ?_
  rintro e v7 ⟨rfl, hB7⟩
  rw [HE2.out]
  have e2 : (strOf hexAbc).toList = [98, 97, 55, 56, 49, 54, 98, 102, 56, 102, 48, 49, 99, 102, 101, 97, 52, 49, 52, 49, 52, 48, 100, 101, 53, 100, 97, 101, 50, 50, 50, 51, 98, 48, 48, 51, 54, 49, 97, 51, 57, 54, 49, 55, 55, 97, 57, 99, 98, 52, 49, 48, 102, 102, 54, 49, 102, 50, 48, 48, 49, 53, 97, 100] := ByteArray.toList_eq _
  have b3 := b3.below hB7 b3.lt
  have B7 := Lib.hid (B6.out.trans (hB7.mono B6.out.size))
  have HH3 := Lib.hid (hex_any D3 v7 HN3.out)
  clear HH2 hB7 b2
  go_wp2_with (first
    | ((refine wpList_on (by rfl) ?_); (with_reducible refine wpList_load_blk rfl 36 (.tmp 3) rfl R3 36 (arr encB D3) ?hb rfl arrTy rfl (arrSz HN3.out) ?_); (case hb => exact b3)))
  with_reducible refine HH3.out.mono ?_
  rintro e v8 ⟨rfl, hB8⟩
  rw [HE3.out]
  have e3 : (strOf hexJefe).toList = [53, 98, 100, 99, 99, 49, 52, 54, 98, 102, 54, 48, 55, 53, 52, 101, 54, 97, 48, 52, 50, 52, 50, 54, 48, 56, 57, 53, 55, 53, 99, 55, 53, 97, 48, 48, 51, 102, 48, 56, 57, 100, 50, 55, 51, 57, 56, 51, 57, 100, 101, 99, 53, 56, 98, 57, 54, 52, 101, 99, 51, 56, 52, 51] := ByteArray.toList_eq _
  have B8 := Lib.hid (B7.out.trans (hB8.mono B7.out.size))
  clear HH3 hB8 b3
  have e4 : v32 3808858755 = 3808858755 := rfl
  go_wp2_with fail
  go_ret
  exact ⟨rfl, B8.out⟩
end Go.Proofs.YtepikbmlhejobaaDoor
