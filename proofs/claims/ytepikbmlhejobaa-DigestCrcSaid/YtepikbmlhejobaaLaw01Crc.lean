/- DigestCrc: for every number and every list of bytes, without a condition: the program's CRC-32C and the document's answer the same, and the list is as it was. -/
import Derived.Test.YtepikbmlhejobaaLaw01a
namespace Go.Proofs.Ytepikbmlhejobaa
open Go.RowKit
attribute [local go_sem] signed_u32 max_u32 u32_not_ u8_to_u32 u32_xor_ u32_and1_ u32_notr_
set_option maxHeartbeats 1000000 in
theorem refCrcMore_any (c : UInt32) (A : Option Addr) (cap : Nat) (l : List UInt8) (w : World) (hn : l.length ≤ maxLen) (h : Rd encB w A l) :
    Calls Try.prog 11 #[enc32 c, .slice A l.length cap] w fun e w' => e = .returned (enc32 (crcMore c l)) ∧ w = w' := by
  unfold maxLen at hn
  go_enter Try.func11, Try.ntmps11
  go_wp2
  go_loop [5, 6] (fun x i => ∃ k : Nat, k ≤ l.length ∧ i = .int .i64 k ∧ x = enc32 (crcFrom (4294967295 ^^^ c) (l.take k))) (fun _ i => l.length - (intOf i).toNat)
  case atStart => exact ⟨0, by omega, rfl, rfl⟩
  case round =>
    obtain ⟨k, hk, rfl, rfl⟩ := hrel
    by_cases hlt : k < l.length
    · obtain ⟨ad, b, rfl, hb, hc⟩ := h.at_ hlt
      have hs := crcFrom_snoc (4294967295 ^^^ c) l k b hb
      have Hs := Lib.hid hs
      clear hs hb
      generalize crcFrom (4294967295 ^^^ c) (l.take k) = x at *
      go_wp2
      go_loop [5, 7] (fun y j => ∃ m : Nat, m ≤ 8 ∧ j = .int .i64 m ∧ y = enc32 (crcBits m (x ^^^ b.toUInt32))) (fun _ i => 8 - (intOf i).toNat)
      case atStart => exact ⟨0, by omega, rfl, rfl⟩
      case round =>
        obtain ⟨m, hm, rfl, rfl⟩ := hrel
        by_cases hlt2 : m < 8
        · go_wp2
          · have ht : (v32 (crcBits m (x ^^^ b.toUInt32) &&& 1) == 1) = true := by assumption
            go_round
            case rel => exact ⟨m + 1, by omega, by go_num, int_inj (crcBit_odd ht)⟩
            case measure => simp [intOf]; omega
          · have ht : (v32 (crcBits m (x ^^^ b.toUInt32) &&& 1) == 1) = false := by assumption
            go_round
            case rel => exact ⟨m + 1, by omega, by go_num, int_inj (crcBit_even ht)⟩
            case measure => simp [intOf]; omega
        · obtain rfl : m = 8 := by omega
          go_wp2
          go_round
          case rel => exact ⟨k + 1, by omega, by go_num, by rw [Hs.out]; rfl⟩
          case measure => simp [intOf]; omega
    · obtain rfl : k = l.length := by omega
      go_wp2
      go_ret
      exact ⟨ret_inj (by rw [crcMore]), rfl⟩

theorem refCrc_any (A : Option Addr) (cap : Nat) (l : List UInt8) (w : World) (hn : l.length ≤ maxLen) (h : Rd encB w A l) :
    Calls Try.prog 10 #[.slice A l.length cap] w fun e w' => e = .returned (enc32 (crcMore 0 l)) ∧ w = w' := by
  go_enter Try.func10, Try.ntmps10
  go_wp2_with (go_at_call 11; refine (refCrcMore_any 0 A cap l _ hn h).mono ?_; rintro e w' ⟨rfl, rfl⟩)
  go_ret
  exact ⟨rfl, rfl⟩
theorem refCrcMore_n (c : UInt32) (A : Option Addr) (cap n : Nat) (l : List UInt8) (w : World) (hl : l.length = n) (hn : n ≤ maxLen) (h : Rd encB w A l) :
    Calls Try.prog 11 #[enc32 c, .slice A n cap] w fun e w' => e = .returned (enc32 (crcMore c l)) ∧ w = w' := by
  subst hl; exact refCrcMore_any c A cap l w hn h
theorem refCrc_n (A : Option Addr) (cap n : Nat) (l : List UInt8) (w : World) (hl : l.length = n) (hn : n ≤ maxLen) (h : Rd encB w A l) :
    Calls Try.prog 10 #[.slice A n cap] w fun e w' => e = .returned (enc32 (crcMore 0 l)) ∧ w = w' := by
  subst hl; exact refCrc_any A cap l w hn h

set_option maxHeartbeats 2000000 in
set_option maxRecDepth 20000 in
theorem digestCrc_any (x : UInt32) (A : Option Addr) (cap : Nat) (l : List UInt8) (w : World) (hn : l.length ≤ 140737488351232) (h : Rd encB w A l) (hA : A = none → l.length = 0 ∧ cap = 0) :
    Calls Try.prog 3 #[enc32 x, .slice A l.length cap] w fun e w' => e = .returned (.bool true) ∧ Below w.heap.size w w' := by
  have hn' : l.length ≤ maxLen := by simp only [maxLen]; omega
  go_enter Try.func3, Try.ntmps3
  go_wp2_with fail
  refine (roomy_any A cap l _ hn h).mono ?_
  rintro e w1 ⟨v, rfl, hown, hB⟩
  obtain ⟨g, cf, rfl, hg, hgl, hcf, hcm⟩ := hown.pos (n := l.length + 150) (by simp [marks_length]) (by omega)
  have hp := h.below hB
  have hf : Rd encB w1 (some ⟨g, 0, none⟩) l := by
    have := hown.rd.take l.length
    rwa [List.take_left] at this
  go_wp2_with fail
  refine (given_any _ A _ cf l.length cap _ (by omega) hA).mono ?_
  rintro e w' ⟨A1, c1, rfl, hA1, rfl⟩
  have h1 : Rd encB w1 A1 l := by
    rcases hA1 with rfl | ⟨rfl, h0⟩
    · exact hf
    · rw [List.eq_nil_of_length_eq_zero h0]; exact Rd.nil_
  go_wp2_with fail
  refine (crc_any A1 c1 l _ hn' h1).mono ?_
  rintro e w' ⟨rfl, rfl⟩
  go_wp2_with fail
  refine (given_any _ A _ cf l.length cap _ (by omega) hA).mono ?_
  rintro e w' ⟨A2, c2, rfl, hA2, rfl⟩
  have h2 : Rd encB w1 A2 l := by
    rcases hA2 with rfl | ⟨rfl, h0⟩
    · exact hf
    · rw [List.eq_nil_of_length_eq_zero h0]; exact Rd.nil_
  go_wp2_with fail
  refine (crcMore_any x A2 c2 l _ hn' h2).mono ?_
  rintro e w' ⟨rfl, rfl⟩
  go_wp2_with fail
  refine (refCrc_any A cap l _ hn' hp).mono ?_
  rintro e w' ⟨rfl, rfl⟩
  go_wp2_with fail
  refine (refCrcMore_any x A cap l _ hn' hp).mono ?_
  rintro e w' ⟨rfl, rfl⟩
  go_wp2_with fail
  have hrd := hown.rd
  refine (untouched_any (some ⟨g, 0, none⟩) A cf cap l _ hn hcf hcm hrd hp).mono ?_
  rintro e w' ⟨rfl, q, rfl⟩
  have hb1 : (l.length : Int) ≤ (cf : Int) := by omega
  have ho := (hown.take_ (k := l.length) (by simp)).drewN q
  rw [List.take_left] at ho
  go_wp2_with fail
  refine (spoil_any g l.length cf w.heap.size 85 l _ rfl hcm ho).mono ?_
  rintro e w2 ⟨rfl, ho2, hg2⟩
  have hB2 := below_only (below_drewN hB q) hg2 (by simpa using hB.size) hg
  have hl2 : (l.map (· ^^^ ((85 : UInt8) ||| 1))).length = l.length := by simp
  generalize l.map (· ^^^ ((85 : UInt8) ||| 1)) = m at *
  have Hl := Lib.hid hl2
  clear hl2
  have hr2 := ho2.rd
  go_wp2_with fail
  refine (copied_n (some ⟨g, 0, none⟩) cf l.length m _ Hl.out (by omega) hr2).mono ?_
  rintro e w3 ⟨u, rfl, hu, hB3⟩
  obtain ⟨U, cu, hv, _, hru, _⟩ := hu.slice
  rw [Hl.out] at hv
  subst hv
  have hr3 := hr2.below hB3
  go_wp2_with fail
  refine (crc_n _ cf _ m _ Hl.out hn' hr3).mono ?_
  rintro e w' ⟨rfl, rfl⟩
  go_wp2_with fail
  refine (crcMore_n x _ cf _ m _ Hl.out hn' hr3).mono ?_
  rintro e w' ⟨rfl, rfl⟩
  go_wp2_with fail
  refine (refCrc_n _ cu _ m _ Hl.out hn' hru).mono ?_
  rintro e w' ⟨rfl, rfl⟩
  go_wp2_with fail
  refine (refCrcMore_n x _ cu _ m _ Hl.out hn' hru).mono ?_
  rintro e w' ⟨rfl, rfl⟩
  go_wp2
  go_ret
  exact ⟨ret_bool (by simp), hB2.trans (hB3.mono hB2.size)⟩
end Go.Proofs.Ytepikbmlhejobaa
