/- ones: how many bits of a list are 1. -/
import Derived.Test.YtepikbmlhejobaaDoorCrcPar
import Derived.Test.YtepikbmlhejobaaDoorLaw01a
namespace Go.Proofs.YtepikbmlhejobaaDoor
open Go.RowKit
theorem onesL_le (l : List UInt8) : onesL l ≤ 8 * l.length := by
  have : ∀ (l : List UInt8) (n : Nat), l.foldl (fun n b => n + onesB b 8) n ≤ n + 8 * l.length := by
    intro l
    induction l with
    | nil => intro n; simp
    | cons b l ih => intro n; have := ih (n + onesB b 8); have := onesB_le b 8; simp only [List.foldl_cons, List.length_cons]; omega
  have := this l 0
  unfold onesL
  omega
theorem bit_is (b : UInt8) (m : Nat) : bits .and .u8 (vB b / (2 : Int) ^ m) 1 = ((b.toNat / 2 ^ m % 2 : Nat) : Int) := by
  have hlt : b.toNat / 2 ^ m < 256 := Nat.lt_of_le_of_lt (Nat.div_le_self _ _) b.toNat_lt
  have h1 : vB b / (2 : Int) ^ m = vB (UInt8.ofNat (b.toNat / 2 ^ m)) := by
    rw [← vB_of hlt]
    unfold vB
    rw [Int.natCast_ediv, Int.natCast_pow]
    rfl
  rw [h1]
  refine (u8_and_ _ 1).trans ?_
  unfold vB
  rw [UInt8.toNat_and, UInt8.toNat_ofNat', Nat.mod_eq_of_lt hlt]
  exact congrArg _ (Nat.and_one_is_mod _)
set_option maxHeartbeats 1000000 in
theorem ones_any (A : Option Addr) (c n : Nat) (l : List UInt8) (w : World) (hn : l.length = n) (hm : n ≤ 140737488355328) (h : Rd encB w A l) :
    Calls Tryd.prog 36 #[.slice A n c] w fun e w' => e = .returned (.int .i64 (onesL l : Nat)) ∧ w = w' := by
  have HN := Lib.hid hn
  clear hn
  go_enter Tryd.func36, Tryd.ntmps36
  go_wp2
  go_loop [3, 4] (fun s i => ∃ k : Nat, k ≤ n ∧ i = .int .i64 k ∧ s = .int .i64 (onesL (l.take k) : Nat)) (fun _ i => n - (intOf i).toNat)
  case atStart => exact ⟨0, by omega, rfl, rfl⟩
  case round =>
    obtain ⟨k, hk, rfl, rfl⟩ := hrel
    by_cases hlt : k < n
    · obtain ⟨ad, b, rfl, hb, hc⟩ := h.at_ (show k < l.length by rw [HN.out]; exact hlt)
      have hi1 : (k : Int) < (n : Int) := by omega
      have hs : onesL (l.take (k + 1)) = onesL (l.take k) + onesB b 8 := by rw [take_snoc_ hb, onesL_snoc]
      have hle := onesL_le (l.take k)
      have hle2 : (l.take k).length ≤ k := by rw [List.length_take]; omega
      have Hs := Lib.hid hs
      obtain ⟨s, hse⟩ : ∃ s, s = onesL (l.take k) := ⟨_, rfl⟩
      rw [← hse] at Hs hle ⊢
      have hs9 : s ≤ 8 * k := by omega
      clear hs hb hse hle hle2
      go_wp2
      go_loop [3, 5] (fun t j => ∃ m : Nat, m ≤ 8 ∧ j = .int .i64 m ∧ t = .int .i64 ((s + onesB b m : Nat) : Int)) (fun _ j => 8 - (intOf j).toNat)
      case atStart => exact ⟨0, by omega, rfl, rfl⟩
      case round =>
        obtain ⟨m, hm8, rfl, rfl⟩ := hrel
        by_cases hlt2 : m < 8
        · have hi2 : (m : Int) < 8 := by omega
          have hle3 := onesB_le b m
          go_wp2
          go_round
          case rel =>
            have hb1 : b.toNat / 2 ^ m % 2 < 2 := Nat.mod_lt _ (by decide)
            refine ⟨m + 1, by omega, by go_num, int_inj ?_⟩
            rw [bit_is, onesB]
            generalize b.toNat / 2 ^ m % 2 = d at *
            unfold wrap64
            omega
          case measure => simp [intOf]; omega
        · obtain rfl : m = 8 := by omega
          go_wp2
          go_round
          case rel => exact ⟨k + 1, by omega, by go_num, by rw [Hs.out]⟩
          case measure => simp [intOf]; omega
    · obtain rfl : k = n := by omega
      go_wp2
      go_ret
      exact ⟨by rw [List.take_of_length_le (by rw [HN.out]; omega)]; rfl, rfl⟩
end Go.Proofs.YtepikbmlhejobaaDoor
