/- DigestCrcJoins: the CRC of one list behind the other comes of the first's CRC and the second. -/
import Derived.Test.YtepikbmlhejobaaDoorJoin
import Derived.Test.YtepikbmlhejobaaDoorCrcLin
import Derived.Test.YtepikbmlhejobaaDoorShaPub
namespace Go.Proofs.YtepikbmlhejobaaDoor
open Go.RowKit
theorem xor_cancel_ (f x : UInt32) : f ^^^ (f ^^^ x) = x := by rw [← UInt32.xor_assoc, UInt32.xor_self, UInt32.zero_xor]
theorem crcMore_join (l k : List UInt8) : crcMore (crcMore 0 l) k = crcMore 0 (l ++ k) := by
  unfold crcMore
  rw [xor_cancel_, crcFrom_append]
theorem crcMore_none (c : UInt32) : crcMore c [] = c := xor_cancel_ _ _
set_option maxRecDepth 20000 in
set_option maxHeartbeats 4000000 in
theorem crcJoins_any (A : Option Addr) (c : Nat) (l : List UInt8) (A1 : Option Addr) (c1 : Nat) (l1 : List UInt8) (n n1 : Nat) (w : World)
    (hn : l.length = n) (hn1 : l1.length = n1) (hb : n + n1 ≤ 140737488351232)
    (h : Rd encB w A l) (h1 : Rd encB w A1 l1) (hT : Rd enc32 w (some ⟨3, 0, none⟩) ksL) (hS : Rd enc32 w (some ⟨0, 0, none⟩) startS.list) :
    Calls Tryd.prog 8 #[.slice A n c, .slice A1 n1 c1] w fun e w' => e = .returned (.bool true) ∧ Below w.heap.size w w' := by
  have HT := Lib.hid hT
  have HS := Lib.hid hS
  have HP := Lib.hid h
  have HP1 := Lib.hid h1
  have HN := Lib.hid hn
  have HN1 := Lib.hid hn1
  have HLL := Lib.hid (show (l ++ l1).length = n + n1 by rw [List.length_append, hn, hn1])
  have hnl : n ≤ maxLen := by unfold maxLen; omega
  have hnl1 : n1 ≤ maxLen := by unfold maxLen; omega
  have hnl2 : n + n1 ≤ maxLen := by unfold maxLen; omega
  clear hT hS h h1 hn hn1
  obtain ⟨X, hX⟩ : ∃ X, X = crcMore 0 l := ⟨_, rfl⟩
  obtain ⟨Y, hY⟩ : ∃ Y, Y = crcMore 0 (l ++ l1) := ⟨_, rfl⟩
  obtain ⟨V, hV⟩ : ∃ V, V = crcMore 0 l1 := ⟨_, rfl⟩
  have hXY : crcMore X l1 = Y := by rw [hX, hY]; exact crcMore_join l l1
  have HX := Lib.hid hX
  have HY := Lib.hid hY
  have HV := Lib.hid hV
  have HXY := Lib.hid hXY
  clear hX hY hV hXY
  have g1 := Lib.hid (copied_n A c n l w HN.out (by omega) HP.out)
  go_enter Tryd.func8, Tryd.ntmps8
  go_wp2_with fail
  with_reducible refine g1.out.mono ?_
  rintro e w1 ⟨v, rfl, ov, hB⟩
  obtain ⟨A2, c2, hv, hc2, r2, _⟩ := ov.slice
  subst hv
  rw [HN.out]
  have B1 := Lib.hid hB
  have g2 := Lib.hid (crc_n A2 c2 n l w1 HN.out hnl r2)
  rw [← HX.out] at g2
  clear g1 ov hc2 r2 hB
  go_wp2_with fail
  with_reducible refine g2.out.mono ?_
  rintro e w1 ⟨rfl, rfl⟩
  have g3 := Lib.hid (join_n A A1 c c1 n n1 l l1 w1 HN.out HN1.out (by omega) (HP.out.below B1.out) (HP1.out.below B1.out))
  clear g2
  go_wp2_with fail
  with_reducible refine g3.out.mono ?_
  rintro e w2 ⟨v, rfl, ov, hB⟩
  obtain ⟨A3, c3, hv, hc3, r3, _⟩ := ov.slice
  subst hv
  rw [HLL.out]
  have B2 := Lib.hid (B1.out.trans (hB.mono B1.out.size))
  have g4 := Lib.hid (crc_n A3 c3 (n + n1) (l ++ l1) w2 HLL.out hnl2 r3)
  rw [← HY.out] at g4
  clear g3 ov hc3 r3 hB B1
  go_wp2_with fail
  with_reducible refine g4.out.mono ?_
  rintro e w2 ⟨rfl, rfl⟩
  have g5 := Lib.hid (published_any w2 (HT.out.below B2.out) (HS.out.below B2.out))
  clear g4
  go_wp2_with fail
  with_reducible refine g5.out.mono ?_
  rintro e w3 ⟨rfl, hB⟩
  have B3 := Lib.hid (B2.out.trans (hB.mono B2.out.size))
  have g6 := Lib.hid (copied_n A1 c1 n1 l1 w3 HN1.out (by omega) (HP1.out.below B3.out))
  clear g5 hB B2
  go_wp2_with fail
  with_reducible refine g6.out.mono ?_
  rintro e w4 ⟨v, rfl, ov, hB⟩
  obtain ⟨A4, c4, hv, hc4, r4, _⟩ := ov.slice
  subst hv
  rw [HN1.out]
  have B4 := Lib.hid (B3.out.trans (hB.mono B3.out.size))
  have g7 := Lib.hid (crcMore_n X A4 c4 n1 l1 w4 HN1.out hnl1 r4)
  rw [HXY.out] at g7
  have g8 := Lib.hid (crcMore_n X none 0 0 [] w4 rfl (by decide) (fun i x hx => by simp at hx))
  rw [crcMore_none] at g8
  have g9 := Lib.hid (copied_n A1 c1 n1 l1 w4 HN1.out (by omega) (HP1.out.below B4.out))
  have e1 : (v32 Y == v32 Y) = true := beq_self_eq_true _
  have e2 : (v32 X == v32 X) = true := beq_self_eq_true _
  have e3 : (v32 V == v32 V) = true := beq_self_eq_true _
  clear g6 ov hc4 r4 hB B3
  go_wp2_with fail
  with_reducible refine g7.out.mono ?_
  rintro e w5 ⟨rfl, rfl⟩
  go_wp2_with fail
  with_reducible refine g8.out.mono ?_
  rintro e w5 ⟨rfl, rfl⟩
  go_wp2_with fail
  with_reducible refine g9.out.mono ?_
  rintro e w5 ⟨v, rfl, ov, hB⟩
  obtain ⟨A5, c5, hv, hc5, r5, _⟩ := ov.slice
  subst hv
  rw [HN1.out]
  have B5 := Lib.hid (B4.out.trans (hB.mono B4.out.size))
  have g10 := Lib.hid (crcMore_n 0 A5 c5 n1 l1 w5 HN1.out hnl1 r5)
  rw [← HV.out, show enc32 0 = Value.int .u32 0 from rfl] at g10
  have g11 := Lib.hid (copied_n A1 c1 n1 l1 w5 HN1.out (by omega) (HP1.out.below B5.out))
  clear g7 g8 g9 ov hc5 r5 hB B4
  go_wp2_with fail
  with_reducible refine g10.out.mono ?_
  rintro e w6 ⟨rfl, rfl⟩
  go_wp2_with fail
  with_reducible refine g11.out.mono ?_
  rintro e w6 ⟨v, rfl, ov, hB⟩
  obtain ⟨A6, c6, hv, hc6, r6, _⟩ := ov.slice
  subst hv
  rw [HN1.out]
  have B6 := Lib.hid (B5.out.trans (hB.mono B5.out.size))
  have g12 := Lib.hid (crc_n A6 c6 n1 l1 w6 HN1.out hnl1 r6)
  rw [← HV.out] at g12
  clear g10 g11 ov hc6 r6 hB B5
  go_wp2_with fail
  with_reducible refine g12.out.mono ?_
  rintro e w7 ⟨rfl, rfl⟩
  go_wp2_with fail
  go_ret
  exact ⟨rfl, B6.out⟩
end Go.Proofs.YtepikbmlhejobaaDoor
