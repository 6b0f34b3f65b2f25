/- CRC-32C: the parity of the bits passes through the sum; the count of one bits. -/
import Derived.Test.YtepikbmlhejobaaDoorCrcLin
namespace Go.Proofs.YtepikbmlhejobaaDoor
open Go.RowKit
/-- the sum modulo 2 of the first n values -/
def parTo (f : Nat → Bool) : Nat → Bool
  | 0 => false
  | n + 1 => (parTo f n).xor (f n)
theorem parTo_xor (f g : Nat → Bool) (n : Nat) : parTo (fun i => (f i).xor (g i)) n = (parTo f n).xor (parTo g n) := by
  induction n with
  | zero => rfl
  | succ n ih => simp only [parTo, ih]; cases parTo f n <;> cases parTo g n <;> cases f n <;> cases g n <;> rfl
theorem parTo_shift (f : Nat → Bool) (n : Nat) : parTo f (n + 1) = (f 0).xor (parTo (fun i => f (i + 1)) n) := by
  induction n with
  | zero => simp [parTo]
  | succ n ih => rw [parTo, ih, parTo]; cases f 0 <;> cases parTo (fun i => f (i + 1)) n <;> cases f (n + 1) <;> rfl
def par (x : UInt32) : Bool := parTo (fun i => x.toNat.testBit i) 32
theorem par_xor (x y : UInt32) : par (x ^^^ y) = (par x).xor (par y) := by
  unfold par
  rw [← parTo_xor]
  congr 1
  funext i
  rw [UInt32.toNat_xor, Nat.testBit_xor]
theorem par_shr (x : UInt32) : (par (x >>> 1)) = (par x).xor (x.toNat.testBit 0) := by
  have h1 := parTo_shift (fun i => x.toNat.testBit i) 32
  have h2 : parTo (fun i => x.toNat.testBit i) 33 = (parTo (fun i => x.toNat.testBit i) 32).xor (x.toNat.testBit 32) := rfl
  have h3 : x.toNat.testBit 32 = false := Nat.testBit_lt_two_pow x.toNat_lt
  have h4 : (fun i => (x >>> 1).toNat.testBit i) = fun i => x.toNat.testBit (i + 1) := by
    funext i
    rw [UInt32.toNat_shiftRight]
    show (x.toNat >>> 1).testBit i = _
    rw [Nat.testBit_shiftRight, Nat.add_comm]
  unfold par
  rw [h4]
  rw [h2, h3] at h1
  simp only [Bool.xor_false] at h1
  rw [h1]
  cases x.toNat.testBit 0 <;> cases parTo (fun i => x.toNat.testBit (i + 1)) 32 <;> rfl
theorem testBit0 (x : UInt32) : x.toNat.testBit 0 = decide (x &&& 1 = 1) := by
  have h : (x &&& 1).toNat = x.toNat % 2 := by rw [UInt32.toNat_and]; exact Nat.and_one_is_mod _
  rw [Nat.testBit_zero]
  congr 1
  apply propext
  rw [← h]
  exact ⟨fun e => UInt32.toNat_inj.1 e, fun e => by rw [e]; rfl⟩
theorem par_poly : par 2197175160 = true := by decide
theorem par_bit (x : UInt32) : par (crcBit x) = par x := by
  unfold crcBit
  by_cases h : x &&& 1 = 1
  · rw [if_pos h, par_xor, par_shr, testBit0, par_poly, decide_eq_true h]; cases par x <;> rfl
  · rw [if_neg h, par_shr, testBit0, decide_eq_false h]; cases par x <;> rfl
theorem par_bits (n : Nat) (x : UInt32) : par (crcBits n x) = par x := by
  induction n with
  | zero => rfl
  | succ n ih => rw [crcBits, par_bit, ih]
/-- how many of the first k bits of b are 1 -/
def onesB (b : UInt8) : Nat → Nat
  | 0 => 0
  | k + 1 => onesB b k + b.toNat / 2 ^ k % 2
def onesL (l : List UInt8) : Nat := l.foldl (fun n b => n + onesB b 8) 0
theorem onesL_snoc (l : List UInt8) (b : UInt8) : onesL (l ++ [b]) = onesL l + onesB b 8 := by simp [onesL]
theorem onesB_le (b : UInt8) (k : Nat) : onesB b k ≤ k := by
  induction k with
  | zero => exact Nat.le_refl _
  | succ k ih => rw [onesB]; have : b.toNat / 2 ^ k % 2 < 2 := Nat.mod_lt _ (by decide); omega
theorem par_byte : ∀ b : UInt8, par b.toUInt32 = decide (onesB b 8 % 2 = 1) := by
  have h : ∀ n : Fin 256, par (UInt8.ofNat n.1).toUInt32 = decide (onesB (UInt8.ofNat n.1) 8 % 2 = 1) := by decide +kernel
  intro b
  have := h ⟨b.toNat, b.toNat_lt⟩
  simpa using this
theorem par_from : ∀ (l : List UInt8) (x : UInt32) (n : Nat), par x = decide (n % 2 = 1) → par (crcFrom x l) = decide ((l.foldl (fun n b => n + onesB b 8) n) % 2 = 1)
  | [], _, _, h => h
  | b :: l, x, n, h => by
    refine par_from l (crcByte x b) (n + onesB b 8) ?_
    unfold crcByte
    rw [par_bits, par_xor, h, par_byte]
    have := Nat.mod_two_eq_zero_or_one n
    have := Nat.mod_two_eq_zero_or_one (onesB b 8)
    rcases Nat.mod_two_eq_zero_or_one n with h1 | h1 <;> rcases Nat.mod_two_eq_zero_or_one (onesB b 8) with h2 | h2 <;> simp [h1, h2, Nat.add_mod]
theorem crcMore_xor {p q : List UInt8} (h : p.length = q.length) : crcMore 0 p ^^^ crcMore 0 q = crcFrom 0 (xorL p q) := by
  unfold crcMore
  rw [UInt32.xor_comm _ (crcFrom _ p), UInt32.xor_comm _ (crcFrom _ q), xor_four, ← crcFrom_xor p q _ _ h]
  rfl
theorem crc_odd {p q : List UInt8} (h : p.length = q.length) (ho : onesL (xorL p q) % 2 = 1) : crcMore 0 p ≠ crcMore 0 q := by
  intro e
  have h1 := crcMore_xor h
  rw [e, UInt32.xor_self] at h1
  have h2 := par_from (xorL p q) 0 0 (by decide)
  rw [← h1] at h2
  rw [show (xorL p q).foldl (fun n b => n + onesB b 8) 0 = onesL (xorL p q) from rfl, ho] at h2
  revert h2
  decide
end Go.Proofs.YtepikbmlhejobaaDoor
