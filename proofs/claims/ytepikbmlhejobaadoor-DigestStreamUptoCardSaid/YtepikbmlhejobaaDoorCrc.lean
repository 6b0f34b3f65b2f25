/- The CRC-32C: digest.CrcMore, digest.Crc and the document's, each by contract. -/
import Derived.Test.YtepikbmlhejobaaDoorProg
import Derived.Test.YtepikbmlhejobaaDoorMem
import Derived.WalkKit
import Derived.KernelRfl
import Derived.Lib.Hide
namespace Go.Proofs.YtepikbmlhejobaaDoor
open Go.RowKit

/-- one bit of the CRC -/
def crcBit (x : UInt32) : UInt32 := if x &&& 1 = 1 then (x >>> 1) ^^^ 2197175160 else x >>> 1
def crcBits : Nat → UInt32 → UInt32
  | 0, x => x
  | k + 1, x => crcBit (crcBits k x)
def crcByte (x : UInt32) (b : UInt8) : UInt32 := crcBits 8 (x ^^^ b.toUInt32)
def crcFrom (x : UInt32) (l : List UInt8) : UInt32 := l.foldl crcByte x
def crcMore (c : UInt32) (l : List UInt8) : UInt32 := 4294967295 ^^^ crcFrom (4294967295 ^^^ c) l
theorem crcFrom_snoc (x : UInt32) (l : List UInt8) (k : Nat) (b : UInt8) (h : l[k]? = some b) : crcFrom x (l.take (k + 1)) = crcByte (crcFrom x (l.take k)) b := by
  unfold crcFrom
  rw [List.take_add_one, h, List.foldl_append]
  rfl
theorem crcBit_odd {x : UInt32} (h : (v32 (x &&& 1) == 1) = true) : bits .xor .u32 (v32 x / (2 : Int)) 2197175160 = v32 (crcBit x) := by
  have h1 : x &&& 1 = 1 := v32_inj (eq_of_beq h)
  rw [u32_half, crcBit, if_pos h1]
  exact u32_xor_ _ 2197175160
theorem crcBit_even {x : UInt32} (h : (v32 (x &&& 1) == 1) = false) : v32 x / (2 : Int) = v32 (crcBit x) := by
  have h1 : ¬ x &&& 1 = 1 := by
    intro h1
    rw [h1] at h
    exact absurd h (by decide)
  rw [u32_half, crcBit, if_neg h1]

attribute [local go_sem] signed_u32 max_u32 u32_not_ u8_to_u32 u32_xor_ u32_and1_
set_option maxHeartbeats 1000000 in
theorem crcMore_any (c : UInt32) (A : Option Addr) (cap : Nat) (l : List UInt8) (w : World) (hn : l.length ≤ maxLen) (h : Rd encB w A l) :
    Calls Tryd.prog 33 #[enc32 c, .slice A l.length cap] w fun e w' => e = .returned (enc32 (crcMore c l)) ∧ w = w' := by
  unfold maxLen at hn
  go_enter Tryd.func33, Tryd.ntmps33
  go_wp2
  go_loop [5, 12] (fun x i => ∃ k : Nat, k ≤ l.length ∧ i = .int .i64 k ∧ x = enc32 (crcFrom (4294967295 ^^^ c) (l.take k))) (fun _ i => l.length - (intOf i).toNat)
  case atStart => exact ⟨0, by omega, rfl, rfl⟩
  case round =>
    obtain ⟨k, hk, rfl, rfl⟩ := hrel
    by_cases hlt : k < l.length
    · obtain ⟨ad, b, rfl, hb, hc⟩ := h.at_ hlt
      have hs := crcFrom_snoc (4294967295 ^^^ c) l k b hb
      have Hs := Lib.hid hs
      clear hs hb
      generalize crcFrom (4294967295 ^^^ c) (l.take k) = x at *
      go_wp2
      go_loop [5, 20] (fun y j => ∃ m : Nat, m ≤ 8 ∧ j = .int .i64 m ∧ y = enc32 (crcBits m (x ^^^ b.toUInt32))) (fun _ i => 8 - (intOf i).toNat)
      case atStart => exact ⟨0, by omega, rfl, rfl⟩
      case round =>
        obtain ⟨m, hm, rfl, rfl⟩ := hrel
        by_cases hlt2 : m < 8
        · go_wp2
          · have ht : (v32 (crcBits m (x ^^^ b.toUInt32) &&& 1) == 1) = true := by assumption
            go_round
            case rel => exact ⟨m + 1, by omega, by go_num, int_inj (crcBit_odd ht)⟩
            case measure => simp [intOf]; omega
          · have ht : (v32 (crcBits m (x ^^^ b.toUInt32) &&& 1) == 1) = false := by assumption
            go_round
            case rel => exact ⟨m + 1, by omega, by go_num, int_inj (crcBit_even ht)⟩
            case measure => simp [intOf]; omega
        · obtain rfl : m = 8 := by omega
          go_wp2
          go_round
          case rel => exact ⟨k + 1, by omega, by go_num, by rw [Hs.out]; rfl⟩
          case measure => simp [intOf]; omega
    · obtain rfl : k = l.length := by omega
      go_wp2
      go_ret
      exact ⟨ret_inj (by rw [crcMore]), rfl⟩

theorem crc_any (A : Option Addr) (cap : Nat) (l : List UInt8) (w : World) (hn : l.length ≤ maxLen) (h : Rd encB w A l) :
    Calls Tryd.prog 32 #[.slice A l.length cap] w fun e w' => e = .returned (enc32 (crcMore 0 l)) ∧ w = w' := by
  go_enter Tryd.func32, Tryd.ntmps32
  go_wp2_with (go_at_call 33; refine (crcMore_any 0 A cap l _ hn h).mono ?_; rintro e w' ⟨rfl, rfl⟩)
  go_ret
  exact ⟨rfl, rfl⟩
theorem crcMore_n (c : UInt32) (A : Option Addr) (cap n : Nat) (l : List UInt8) (w : World) (hl : l.length = n) (hn : n ≤ maxLen) (h : Rd encB w A l) :
    Calls Tryd.prog 33 #[enc32 c, .slice A n cap] w fun e w' => e = .returned (enc32 (crcMore c l)) ∧ w = w' := by
  subst hl; exact crcMore_any c A cap l w hn h
theorem crc_n (A : Option Addr) (cap n : Nat) (l : List UInt8) (w : World) (hl : l.length = n) (hn : n ≤ maxLen) (h : Rd encB w A l) :
    Calls Tryd.prog 32 #[.slice A n cap] w fun e w' => e = .returned (enc32 (crcMore 0 l)) ∧ w = w' := by
  subst hl; exact crc_any A cap l w hn h
end Go.Proofs.YtepikbmlhejobaaDoor
