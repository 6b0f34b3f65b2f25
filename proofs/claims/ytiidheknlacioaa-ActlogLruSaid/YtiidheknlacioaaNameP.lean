/- The text that stands for a number as a key, plain. -/
import Derived.Test.YtiidheknlacioaaGSet
namespace Go.Proofs.Ytiidheknlacioaa
open Go.RowKit
set_option linter.unusedVariables false
/-- the last f digits of n -/
def digs : Nat → Nat → List UInt8
  | _, 0 => []
  | n, f + 1 => digs (n / 10) f ++ [UInt8.ofNat (48 + n % 10)]
def nameL (k : Int) : List UInt8 := if k < 0 then 45 :: digs k.natAbs 20 else digs k.natAbs 20
def nameB (k : Int) : ByteArray := ⟨(nameL k).toArray⟩
theorem digs_len (n f : Nat) : (digs n f).length = f := by
  induction f generalizing n with
  | zero => rfl
  | succ f ih => rw [digs, List.length_append, ih]; rfl
def valD (l : List UInt8) : Nat := l.foldl (fun a d => a * 10 + (d.toNat - 48)) 0
theorem valD_snoc (l : List UInt8) (d : UInt8) : valD (l ++ [d]) = valD l * 10 + (d.toNat - 48) := by unfold valD; rw [List.foldl_append]; rfl
theorem valD_digs (n f : Nat) : valD (digs n f) = n % 10 ^ f := by
  induction f generalizing n with
  | zero => simp [digs, valD, Nat.mod_one]
  | succ f ih =>
    rw [digs, valD_snoc, ih]
    have h1 : (UInt8.ofNat (48 + n % 10)).toNat = 48 + n % 10 := by
      rw [UInt8.toNat_ofNat']
      have : n % 10 < 10 := Nat.mod_lt _ (by omega)
      omega
    rw [h1, Nat.pow_succ, Nat.mul_comm (10 ^ f) 10, Nat.mod_mul]
    omega
theorem digs_inj {a b : Nat} (ha : a < 10 ^ 20) (hb : b < 10 ^ 20) (h : digs a 20 = digs b 20) : a = b := by
  have h1 := congrArg valD h
  rw [valD_digs, valD_digs, Nat.mod_eq_of_lt ha, Nat.mod_eq_of_lt hb] at h1
  exact h1
theorem nameL_inj {a b : Int} (ha : -9223372036854775808 ≤ a ∧ a ≤ 9223372036854775807) (hb : -9223372036854775808 ≤ b ∧ b ≤ 9223372036854775807) (h : nameL a = nameL b) : a = b := by
  have la : a.natAbs < 10 ^ 20 := by omega
  have lb : b.natAbs < 10 ^ 20 := by omega
  unfold nameL at h
  by_cases na : a < 0 <;> by_cases nb : b < 0
  · rw [if_pos na, if_pos nb] at h
    have := digs_inj la lb (List.cons.inj h).2
    omega
  · rw [if_pos na, if_neg nb] at h
    have := congrArg List.length h
    rw [List.length_cons, digs_len, digs_len] at this
    omega
  · rw [if_neg na, if_pos nb] at h
    have := congrArg List.length h
    rw [List.length_cons, digs_len, digs_len] at this
    omega
  · rw [if_neg na, if_neg nb] at h
    have := digs_inj la lb h
    omega
theorem nameB_inj {a b : Int} (ha : -9223372036854775808 ≤ a ∧ a ≤ 9223372036854775807) (hb : -9223372036854775808 ≤ b ∧ b ≤ 9223372036854775807) (h : (nameB a).data.toList = (nameB b).data.toList) : a = b := nameL_inj ha hb (by simpa [nameB] using h)
theorem nameL_len (k : Int) : (nameL k).length ≤ 21 := by
  unfold nameL
  split
  · rw [List.length_cons, digs_len]; omega
  · rw [digs_len]; omega
theorem nameL_pos (k : Int) : 20 ≤ (nameL k).length := by
  unfold nameL
  split
  · rw [List.length_cons, digs_len]; omega
  · rw [digs_len]; omega
end Go.Proofs.Ytiidheknlacioaa
