/- CRC-32C: the sum is linear. -/
import Derived.Test.YtepikbmlhejobaaDoorCrc
namespace Go.Proofs.YtepikbmlhejobaaDoor
open Go.RowKit
theorem and_one (x : UInt32) : x &&& 1 = 0 ∨ x &&& 1 = 1 := by
  have h : (x &&& 1).toNat = x.toNat % 2 := by rw [UInt32.toNat_and]; exact Nat.and_one_is_mod _
  rcases Nat.mod_two_eq_zero_or_one x.toNat with h' | h'
  · exact .inl (UInt32.toNat_inj.1 (by rw [h, h']; rfl))
  · exact .inr (UInt32.toNat_inj.1 (by rw [h, h']; rfl))
theorem shr_xor (x y : UInt32) : (x ^^^ y) >>> 1 = (x >>> 1) ^^^ (y >>> 1) := by
  apply UInt32.toBitVec_inj.1
  simp only [UInt32.toBitVec_shiftRight, UInt32.toBitVec_xor]
  exact BitVec.ushiftRight_xor_distrib _ _ _
theorem xor_four (a b p : UInt32) : (a ^^^ p) ^^^ (b ^^^ p) = a ^^^ b := by
  rw [UInt32.xor_assoc, ← UInt32.xor_assoc p, UInt32.xor_comm p b, UInt32.xor_assoc b, UInt32.xor_self, UInt32.xor_zero]
theorem crcBit_xor (x y : UInt32) : crcBit (x ^^^ y) = crcBit x ^^^ crcBit y := by
  have hd : (x ^^^ y) &&& 1 = (x &&& 1) ^^^ (y &&& 1) := UInt32.toNat_inj.1 (by simp only [UInt32.toNat_and, UInt32.toNat_xor]; exact Nat.and_xor_distrib_right)
  unfold crcBit
  rw [hd, shr_xor]
  rcases and_one x with hx | hx <;> rcases and_one y with hy | hy <;> rw [hx, hy]
  · rfl
  · rw [if_pos (by decide), if_neg (by decide), if_pos rfl, UInt32.xor_assoc]
  · rw [if_pos (by decide), if_pos rfl, if_neg (by decide), UInt32.xor_assoc, UInt32.xor_assoc, UInt32.xor_comm (y >>> 1)]
  · rw [if_neg (by decide), if_pos rfl, if_pos rfl, xor_four]
theorem crcBits_xor (n : Nat) (x y : UInt32) : crcBits n (x ^^^ y) = crcBits n x ^^^ crcBits n y := by
  induction n generalizing x y with
  | zero => rfl
  | succ n ih => simp only [crcBits]; first | rw [crcBit_xor, ih] | rw [ih, crcBit_xor]
theorem crcByte_xor (x y : UInt32) (a b : UInt8) : crcByte (x ^^^ y) (a ^^^ b) = crcByte x a ^^^ crcByte y b := by
  unfold crcByte
  rw [← crcBits_xor, UInt8.toUInt32_xor]
  congr 1
  ac_rfl
def xorL (a b : List UInt8) : List UInt8 := List.zipWith (· ^^^ ·) a b
theorem crcFrom_xor : ∀ (a b : List UInt8) (x y : UInt32), a.length = b.length → crcFrom (x ^^^ y) (xorL a b) = crcFrom x a ^^^ crcFrom y b
  | [], [], _, _, _ => rfl
  | a :: at_, b :: bs, x, y, h => by
    show crcFrom (crcByte (x ^^^ y) (a ^^^ b)) (xorL at_ bs) = _
    rw [crcByte_xor]
    exact crcFrom_xor at_ bs _ _ (by simpa using h)
theorem xorL_length {a b : List UInt8} (h : a.length = b.length) : (xorL a b).length = a.length := by simp [xorL, h]
theorem crc_sum (a x y : List UInt8) (hx : a.length = x.length) (hy : a.length = y.length) : crcMore 0 (xorL (xorL a x) y) = crcMore 0 a ^^^ crcMore 0 x ^^^ crcMore 0 y := by
  have h := crcFrom_xor (xorL a x) y (4294967295 ^^^ 4294967295) 4294967295 (by rw [xorL_length hx]; exact hy)
  rw [crcFrom_xor a x _ _ hx] at h
  have e : (4294967295 ^^^ 4294967295 ^^^ 4294967295 : UInt32) = 4294967295 ^^^ 0 := by decide
  unfold crcMore
  rw [e] at h
  rw [h, show (4294967295 ^^^ 0 : UInt32) = 4294967295 by decide]
  have q : ∀ u v w f : UInt32, f ^^^ (u ^^^ v ^^^ w) = (f ^^^ u) ^^^ (f ^^^ v) ^^^ (f ^^^ w) := fun u v w f => by
    have : (f ^^^ u) ^^^ (f ^^^ v) = u ^^^ v := by rw [UInt32.xor_comm f u, UInt32.xor_comm f v, xor_four]
    rw [this]; ac_rfl
  exact q _ _ _ _
theorem crcFrom_append (x : UInt32) (a b : List UInt8) : crcFrom x (a ++ b) = crcFrom (crcFrom x a) b := List.foldl_append
end Go.Proofs.YtepikbmlhejobaaDoor
