/- DigestCrcTells: bits within 32 that follow each other, turned, one at least, give another CRC. -/
import Derived.Test.YtepikbmlhejobaaDoorFlip
import Derived.Test.YtepikbmlhejobaaDoorShaPub
namespace Go.Proofs.YtepikbmlhejobaaDoor
open Go.RowKit
theorem wf_i64 {n : Int} (h : (Lit.int .i64 n).wf = true) : -9223372036854775808 ≤ n ∧ n ≤ 9223372036854775807 := by
  simp [Lit.wf] at h
  have e1 : IntKind.i64.min = -9223372036854775808 := rfl
  have e2 : IntKind.i64.max = 9223372036854775807 := rfl
  omega
set_option maxRecDepth 20000 in
set_option maxHeartbeats 4000000 in
theorem crcTells_any (A : Option Addr) (c n : Nat) (l : List UInt8) (at_ : Int) (m : UInt32) (w : World) (hn : l.length = n) (hb : n ≤ 140737488351232) (hat : -9223372036854775808 ≤ at_ ∧ at_ ≤ 9223372036854775807)
    (h : Rd encB w A l) (hT : Rd enc32 w (some ⟨3, 0, none⟩) ksL) (hS : Rd enc32 w (some ⟨0, 0, none⟩) startS.list) :
    Calls Tryd.prog 9 #[.slice A n c, .int .i64 at_, enc32 m] w fun e w' => e = .returned (.bool true) ∧ Below w.heap.size w w' := by
  have HP := Lib.hid h
  have HN := Lib.hid hn
  have g0 := Lib.hid (published_any w hT hS)
  clear hT hS h hn
  go_enter Tryd.func9, Tryd.ntmps9
  go_wp2_with fail
  with_reducible refine g0.out.mono ?_
  rintro e w0 ⟨rfl, hB⟩
  have B0 := Lib.hid hB
  clear g0 hB
  by_cases hneg : at_ < 0
  · go_wp2_with fail
    go_ret
    exact ⟨rfl, B0.out⟩
  · obtain ⟨a, rfl⟩ : ∃ a : Nat, at_ = (a : Int) := ⟨at_.toNat, by omega⟩
    have ha : a ≤ 9223372036854775807 := by omega
    have g1 := Lib.hid (flip_any A c n a m l w0 HN.out hb ha (HP.out.below B0.out))
    obtain ⟨s, hs⟩ : ∃ s, s = flipN l a m 32 := ⟨_, rfl⟩
    obtain ⟨q, hq⟩ : ∃ q, q = flipTo l a m 32 := ⟨_, rfl⟩
    rw [← hs, ← hq] at g1
    have hs32 : s ≤ 32 := by rw [hs]; exact flipN_le l a m 32
    have HQ := Lib.hid (show q.length = n by rw [hq, flipTo_len, HN.out])
    have Hs := Lib.hid hs
    have Hq := Lib.hid hq
    clear hs hq
    go_wp2_with fail
    with_reducible refine g1.out.mono ?_
    rintro e w1 ⟨A1, c1, rfl, r1, hB⟩
    have B1 := Lib.hid (B0.out.trans (hB.mono B0.out.size))
    have R1 := Lib.hid r1
    have g2 := Lib.hid (copied_n A c n l w1 HN.out (by omega) (HP.out.below B1.out))
    clear g1 r1 hB B0
    by_cases h0 : s = 0
    · have e0 : ((s : Int) == 0) = true := by rw [beq_iff_eq]; omega
      have H0 := Lib.hid h0
      clear h0
      go_wp2_with fail
      go_ret
      exact ⟨rfl, B1.out⟩
    · have e0 : ((s : Int) == 0) = false := by rw [beq_eq_false_iff_ne]; omega
      have H0 := Lib.hid h0
      clear h0
      go_wp2_with fail
      with_reducible refine g2.out.mono ?_
      rintro e w2 ⟨v, rfl, ov, hB⟩
      obtain ⟨A2, c2, hv, hc2, r2, _⟩ := ov.slice
      subst hv
      rw [HN.out]
      have B2 := Lib.hid (B1.out.trans (hB.mono B1.out.size))
      have hnl : n ≤ maxLen := by unfold maxLen; omega
      have g3 := Lib.hid (crc_n A2 c2 n l w2 HN.out hnl r2)
      have g4 := Lib.hid (crc_n A1 c1 n q w2 HQ.out hnl (R1.out.below hB))
      clear g2 ov hc2 r2 hB
      go_wp2_with fail
      with_reducible refine g3.out.mono ?_
      rintro e w3 ⟨rfl, rfl⟩
      go_wp2_with fail
      with_reducible refine g4.out.mono ?_
      rintro e w3 ⟨rfl, rfl⟩
      have ef : crcMore 0 l ≠ crcMore 0 q := by rw [Hq.out]; exact flip_tells l a m (by rw [← Hs.out]; exact H0.out)
      have eb : (v32 (crcMore 0 l) != v32 (crcMore 0 q)) = true := by rw [bne_iff_ne]; exact fun h => ef (v32_inj h)
      clear ef
      go_wp2_with fail
      go_ret
      exact ⟨rfl, B2.out⟩
end Go.Proofs.YtepikbmlhejobaaDoor
