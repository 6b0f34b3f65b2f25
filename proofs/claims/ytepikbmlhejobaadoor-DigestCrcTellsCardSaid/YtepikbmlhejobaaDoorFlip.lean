/- flip: a list with the bits of a mask turned. -/
import Derived.Test.YtepikbmlhejobaaDoorCrcTell
import Derived.Test.YtepikbmlhejobaaDoorOnes
namespace Go.Proofs.YtepikbmlhejobaaDoor
open Go.RowKit
theorem bit32_is (m : UInt32) (j : Nat) : bits .and .u32 (v32 m / (2 : Int) ^ j) 1 = ((m.toNat / 2 ^ j % 2 : Nat) : Int) := by
  have hlt : m.toNat / 2 ^ j < 4294967296 := Nat.lt_of_le_of_lt (Nat.div_le_self _ _) m.toNat_lt
  have h1 : v32 m / (2 : Int) ^ j = v32 (UInt32.ofNat (m.toNat / 2 ^ j)) := by
    rw [← v32_of hlt]
    unfold v32
    rw [Int.natCast_ediv, Int.natCast_pow]
    rfl
  rw [h1]
  refine (u32_and_ _ 1).trans ?_
  unfold v32
  rw [UInt32.toNat_and, UInt32.toNat_ofNat', Nat.mod_eq_of_lt hlt]
  exact congrArg _ (Nat.and_one_is_mod _)
theorem bit32_true {m : UInt32} {j : Nat} (h : m.toNat.testBit j = true) : (bits .and .u32 (v32 m / (2 : Int) ^ j) 1 == 1) = true := by
  rw [bit32_is, beq_iff_eq]
  rw [Nat.testBit_eq_decide_div_mod_eq] at h
  simp only [decide_eq_true_eq] at h
  rw [h]; rfl
theorem bit32_false {m : UInt32} {j : Nat} (h : m.toNat.testBit j = false) : (bits .and .u32 (v32 m / (2 : Int) ^ j) 1 == 1) = false := by
  rw [bit32_is, beq_eq_false_iff_ne]
  rw [Nat.testBit_eq_decide_div_mod_eq] at h
  simp only [decide_eq_false_iff_not] at h
  omega
theorem pow_byte (x : UInt8) (R : Nat) : bits .xor .u8 (vB x) ((2 : Int) ^ R % 256) = vB (x ^^^ UInt8.ofNat (2 ^ R)) := by
  have e : (2 : Int) ^ R % 256 = vB (UInt8.ofNat (2 ^ R)) := by
    unfold vB
    rw [UInt8.toNat_ofNat', Int.natCast_emod, Int.natCast_pow]
    rfl
  rw [e]
  exact u8_xor_ _ _
set_option maxRecDepth 20000 in
set_option maxHeartbeats 2000000 in
theorem flip_any (A : Option Addr) (c n a : Nat) (m : UInt32) (l : List UInt8) (w : World) (hn : l.length = n) (hm : n ≤ 140737488351232) (ha : a ≤ 9223372036854775807) (h : Rd encB w A l) :
    Calls Tryd.prog 34 #[.slice A n c, .int .i64 a, enc32 m] w fun e w' => ∃ A' c', e = .returned (.tuple #[.slice A' n c', .int .i64 (flipN l a m 32 : Nat)]) ∧ Rd encB w' A' (flipTo l a m 32) ∧ Below w.heap.size w w' := by
  have HN := Lib.hid hn
  have g1 := Lib.hid (copied_n A c n l w hn (by omega) h)
  clear hn
  go_enter Tryd.func34, Tryd.ntmps34
  go_wp2_with fail
  with_reducible refine g1.out.mono ?_
  rintro e w1 ⟨v, rfl, ov, hB0⟩
  obtain ⟨A2, c2, hv, hc2, r2, _⟩ := ov.slice
  subst hv
  rw [HN.out] at ov hc2 ⊢
  clear g1 r2
  go_wp2_with fail
  go_loopw [9, 10] (fun s i wr => ∃ k : Nat, k ≤ 32 ∧ i = .int .i64 k ∧ s = .int .i64 (flipN l a m k : Nat) ∧ Own encB 5 wr w.heap.size (.slice A2 n c2) (flipTo l a m k) ∧ Below w.heap.size w wr) (fun _ i _ => 32 - (intOf i).toNat)
  case atStart => exact ⟨0, by omega, rfl, rfl, ov, hB0⟩
  case round =>
    obtain ⟨k, hk, rfl, rfl, hown, hB⟩ := hrel
    clear ov hB0
    by_cases hlt : k < 32
    · have hi1 : (k : Int) < 32 := by omega
      have hle := flipN_le l a m k
      obtain ⟨s, hs⟩ : ∃ s, s = flipN l a m k := ⟨_, rfl⟩
      rw [← hs] at hle ⊢
      have Hs := Lib.hid hs
      clear hs
      cases hb : m.toNat.testBit k with
      | true =>
        have ht := bit32_true hb
        by_cases hin : a + k < 8 * n
        · have hin1 : (a : Int) ≤ 8 * (n : Int) - 1 - (k : Int) := by omega
          obtain ⟨g, cap, hv, hg, hgl, hcap, hmax⟩ := hown.pos (by rw [flipTo_len, HN.out]) (show 0 < n by omega)
          cases hv
          obtain ⟨B, hB8⟩ : ∃ B, B = (a + k) / 8 := ⟨_, rfl⟩
          obtain ⟨R, hR8⟩ : ∃ R, R = (a + k) % 8 := ⟨_, rfl⟩
          have hBn : B < n := by omega
          have hRlt : R < 8 := by omega
          have hBi : ((a : Int) + (k : Int)) / 8 = (B : Int) := by omega
          have hRi : ((a : Int) + (k : Int)) % 8 = (R : Int) := by omega
          have hBn1 : (B : Int) < (n : Int) := by omega
          have hRlt1 : (R : Int) < 8 := by omega
          obtain ⟨x, hx, hcell, hfr⟩ := hown.at_ hBn
          have HX := Lib.hid hx
          have HB8 := Lib.hid hB8
          have HR8 := Lib.hid hR8
          clear hx hB8 hR8
          have hc : flipC l a m k = true := by unfold flipC; rw [hb, decide_eq_true (by rw [HN.out]; exact hin)]; rfl
          have hT : flipTo l a m (k + 1) = (flipTo l a m k).set B (x ^^^ UInt8.ofNat (2 ^ R)) := by
            rw [flipTo, hc, if_pos rfl, turnBit, ← HB8.out, ← HR8.out, List.getD_eq_getElem?_getD, HX.out, Option.getD_some]
          have HT := Lib.hid hT
          have HC := Lib.hid hc
          clear hT hc
          go_wp2
          go_roundw
          case rel =>
            rw [pow_byte]
            exact ⟨k + 1, by omega, by go_num, by rw [flipN, HC.out, if_pos rfl, ← Hs.out]; go_num, by rw [HT.out]; exact hown.set_ B _, hB.setCell hg _⟩
          case measure => simp [intOf]; omega
        · have hin1 : ¬ (a : Int) ≤ 8 * (n : Int) - 1 - (k : Int) := by omega
          have hc : flipC l a m k = false := by unfold flipC; rw [hb, decide_eq_false (by rw [HN.out]; exact hin)]; rfl
          go_wp2
          go_roundw
          case rel => exact ⟨k + 1, by omega, by go_num, by rw [flipN, hc, ← Hs.out]; rfl, by rw [flipTo, hc]; exact hown, hB⟩
          case measure => simp [intOf]; omega
      | false =>
        have ht := bit32_false hb
        have hc : flipC l a m k = false := by unfold flipC; rw [hb]; rfl
        go_wp2
        go_roundw
        case rel => exact ⟨k + 1, by omega, by go_num, by rw [flipN, hc, ← Hs.out]; rfl, by rw [flipTo, hc]; exact hown, hB⟩
        case measure => simp [intOf]; omega
    · obtain rfl : k = 32 := by omega
      go_wp2
      go_ret2
      exact ⟨_, _, rfl, hown.rd, hB⟩
end Go.Proofs.YtepikbmlhejobaaDoor
