/- CRC-32C: what differs within 32 bits that follow each other has another sum. -/
import Derived.Test.YtepikbmlhejobaaDoorCrcPar
namespace Go.Proofs.YtepikbmlhejobaaDoor
open Go.RowKit
def bit1 (b : Bool) : UInt32 := if b then 1 else 0
/-- the register behind n bits, from 0 on -/
def runB (f : Nat → Bool) : Nat → UInt32
  | 0 => 0
  | k + 1 => crcBit (runB f k ^^^ bit1 (f k))
theorem crcBit_zero : crcBit 0 = 0 := by decide
theorem crcBit_inj {x : UInt32} (h : crcBit x = 0) : x = 0 := by
  have hn : x.toNat < 4294967296 := x.toNat_lt
  unfold crcBit at h
  by_cases ho : x &&& 1 = 1
  · rw [if_pos ho] at h
    have h1 : x >>> 1 = 2197175160 := by
      have := congrArg (· ^^^ (2197175160 : UInt32)) h
      simpa [UInt32.xor_assoc] using this
    have h2 : (x >>> 1).toNat = 2197175160 := by rw [h1]; rfl
    rw [UInt32.toNat_shiftRight] at h2
    have h3 : x.toNat / 2 = 2197175160 := by simpa [Nat.shiftRight_eq_div_pow] using h2
    omega
  · rw [if_neg ho] at h
    have h2 : (x >>> 1).toNat = 0 := by rw [h]; rfl
    rw [UInt32.toNat_shiftRight] at h2
    have h3 : x.toNat / 2 = 0 := by simpa [Nat.shiftRight_eq_div_pow] using h2
    rcases and_one x with h0 | h0
    · have h4 : (x &&& 1).toNat = x.toNat % 2 := by rw [UInt32.toNat_and]; exact Nat.and_one_is_mod _
      rw [h0] at h4
      have h5 : (0 : UInt32).toNat = 0 := rfl
      exact UInt32.toNat_inj.1 (by rw [h5] at h4 ⊢; omega)
    · exact absurd h0 ho
theorem crcBits_ne {n : Nat} {x : UInt32} (h : x ≠ 0) : crcBits n x ≠ 0 := by
  induction n with
  | zero => exact h
  | succ n ih => exact fun e => ih (crcBit_inj e)
theorem crcBits_zero (n : Nat) : crcBits n 0 = 0 := by
  induction n with
  | zero => rfl
  | succ n ih => rw [crcBits, ih, crcBit_zero]
theorem run_zeros {f : Nat → Bool} {a : Nat} (h : ∀ i, i < a → f i = false) : runB f a = 0 := by
  induction a with
  | zero => rfl
  | succ a ih =>
    rw [runB, ih (fun i hi => h i (by omega)), h a (by omega)]
    decide
theorem run_more {f : Nat → Bool} {a : Nat} (h : ∀ i, a ≤ i → f i = false) (t : Nat) : runB f (a + t) = crcBits t (runB f a) := by
  induction t with
  | zero => rfl
  | succ t ih =>
    rw [← Nat.add_assoc, runB, ih, h (a + t) (by omega), crcBits]
    simp [bit1]
/-- the number of the first k bits from a on -/
def winW (f : Nat → Bool) (a : Nat) : Nat → UInt32
  | 0 => 0
  | k + 1 => winW f a k ^^^ (if f (a + k) then UInt32.ofNat (2 ^ k) else 0)
theorem one_bit : ∀ k : Fin 32, crcBits k.1 (UInt32.ofNat (2 ^ k.1)) = 1 := by decide +kernel
theorem run_win {f : Nat → Bool} {a : Nat} (h : ∀ i, i < a → f i = false) (k : Nat) (hk : k ≤ 32) : runB f (a + k) = crcBits k (winW f a k) := by
  induction k with
  | zero => exact run_zeros h
  | succ k ih =>
    rw [← Nat.add_assoc, runB, ih (by omega), winW, crcBits, crcBits_xor]
    congr 2
    cases f (a + k) with
    | true => exact (one_bit ⟨k, by omega⟩).symm
    | false => simp [bit1, crcBits_zero]
theorem win_bit {f : Nat → Bool} {a : Nat} (k : Nat) (hk : k ≤ 32) (i : Nat) : (winW f a k).toNat.testBit i = (decide (i < k) && f (a + i)) := by
  induction k with
  | zero => simp [winW]
  | succ k ih =>
    rw [winW, UInt32.toNat_xor, Nat.testBit_xor, ih (by omega)]
    cases hf : f (a + k) with
    | true =>
      have hp : 2 ^ k < 4294967296 := Nat.lt_of_lt_of_le (Nat.pow_lt_pow_right (by decide) (show k < 32 by omega)) (by decide)
      rw [if_pos rfl, UInt32.toNat_ofNat', Nat.mod_eq_of_lt hp, Nat.testBit_two_pow]
      by_cases e : k = i
      · subst e; simp [hf]
      · by_cases hlt : i < k
        · simp [e, hlt, show i < k + 1 by omega]
        · simp [e, hlt, show ¬ i < k + 1 by omega]
    | false =>
      simp
      by_cases e : k = i
      · subst e; simp [hf]
      · by_cases hlt : i < k
        · simp [hlt, show i < k + 1 by omega]
        · simp [hlt, show ¬ i < k + 1 by omega]
/-- what lies within 32 bits, one at least, is told -/
theorem run_tells {f : Nat → Bool} {a n : Nat} (h1 : ∀ i, i < a → f i = false) (h2 : ∀ i, a + 32 ≤ i → f i = false) (h3 : ∀ i, n ≤ i → f i = false) (j : Nat) (hj : j < 32) (h4 : f (a + j) = true) : runB f n ≠ 0 := by
  have hw : winW f a 32 ≠ 0 := by
    intro e
    have := win_bit (f := f) (a := a) 32 (Nat.le_refl _) j
    rw [e, h4] at this
    simp [hj] at this
  have h5 : runB f (a + 32) ≠ 0 := by rw [run_win h1 32 (Nat.le_refl _)]; exact crcBits_ne hw
  by_cases hn : n ≤ a + 32
  · intro e
    have h6 := run_more (f := f) (a := n) h3 (a + 32 - n)
    rw [e, crcBits_zero, show n + (a + 32 - n) = a + 32 by omega] at h6
    exact h5 h6
  · have h6 := run_more (f := f) (a := a + 32) h2 (n - (a + 32))
    rw [show a + 32 + (n - (a + 32)) = n by omega] at h6
    rw [h6]
    exact crcBits_ne h5
/-- the i-th bit of a list of bytes -/
def bitAt (d : List UInt8) (i : Nat) : Bool := (d.getD (i / 8) 0).toNat.testBit (i % 8)
theorem bitAt_far (d : List UInt8) (i : Nat) (h : 8 * d.length ≤ i) : bitAt d i = false := by
  unfold bitAt
  have e : d[i / 8]? = none := List.getElem?_eq_none (by omega)
  simp [List.getD, e]
def run8 (b : UInt8) (x : UInt32) : Nat → UInt32
  | 0 => x
  | k + 1 => crcBit (run8 b x k ^^^ bit1 (b.toNat.testBit k))
theorem run8_xor (b : UInt8) (x : UInt32) (k : Nat) : run8 b x k = crcBits k x ^^^ run8 b 0 k := by
  induction k with
  | zero => simp [run8, crcBits]
  | succ k ih => rw [run8, ih, run8, crcBits, UInt32.xor_assoc, crcBit_xor]
theorem run8_all : ∀ b : UInt8, run8 b 0 8 = crcBits 8 b.toUInt32 := by
  have h : ∀ n : Fin 256, run8 (UInt8.ofNat n.1) 0 8 = crcBits 8 (UInt8.ofNat n.1).toUInt32 := by decide +kernel
  intro b
  have := h ⟨b.toNat, b.toNat_lt⟩
  simpa using this
theorem byte_run (x : UInt32) (b : UInt8) : crcByte x b = run8 b x 8 := by rw [run8_xor, run8_all, crcByte, crcBits_xor]
theorem run_byte (d : List UInt8) (k : Nat) (b : UInt8) (h : d[k]? = some b) (j : Nat) (hj : j ≤ 8) : runB (bitAt d) (8 * k + j) = run8 b (runB (bitAt d) (8 * k)) j := by
  induction j with
  | zero => rfl
  | succ j ih =>
    have e : bitAt d (8 * k + j) = b.toNat.testBit j := by
      unfold bitAt
      rw [show (8 * k + j) / 8 = k by omega, show (8 * k + j) % 8 = j by omega]
      simp [List.getD, h]
    rw [← Nat.add_assoc, runB, ih (by omega), e, run8]
theorem crc_run (d : List UInt8) (k : Nat) (hk : k ≤ d.length) : crcFrom 0 (d.take k) = runB (bitAt d) (8 * k) := by
  induction k with
  | zero => rfl
  | succ k ih =>
    have hx : d[k]? = some d[k] := List.getElem?_eq_getElem (by omega)
    rw [crcFrom_snoc 0 d k _ hx, ih (by omega), byte_run, show 8 * (k + 1) = 8 * k + 8 by omega, run_byte d k _ hx 8 (Nat.le_refl _)]
theorem crc_tells {p q : List UInt8} (h : p.length = q.length) (a j : Nat) (hj : j < 32) (h1 : ∀ i, i < a → bitAt (xorL p q) i = false) (h2 : ∀ i, a + 32 ≤ i → bitAt (xorL p q) i = false) (h4 : bitAt (xorL p q) (a + j) = true) : crcMore 0 p ≠ crcMore 0 q := by
  intro e
  have h5 := crcMore_xor h
  rw [e, UInt32.xor_self] at h5
  have h6 := crc_run (xorL p q) (xorL p q).length (Nat.le_refl _)
  rw [List.take_length, ← h5] at h6
  exact run_tells h1 h2 (fun i hi => bitAt_far _ _ hi) j hj h4 h6.symm
/-- a list with the t-th bit turned -/
def turnBit (l : List UInt8) (t : Nat) : List UInt8 := l.set (t / 8) (l.getD (t / 8) 0 ^^^ UInt8.ofNat (2 ^ (t % 8)))
theorem turnBit_len (l : List UInt8) (t : Nat) : (turnBit l t).length = l.length := by simp [turnBit]
theorem pow_bit : ∀ k i : Fin 8, (UInt8.ofNat (2 ^ k.1)).toNat.testBit i.1 = decide (i.1 = k.1) := by decide +kernel
theorem bitAt_turn {l : List UInt8} {t : Nat} (h : t < 8 * l.length) (i : Nat) : bitAt (turnBit l t) i = (bitAt l i).xor (decide (i = t)) := by
  have hl : t / 8 < l.length := by omega
  unfold bitAt turnBit
  by_cases e : i / 8 = t / 8
  · rw [e, List.getD_eq_getElem?_getD, List.getElem?_set_self hl, Option.getD_some, UInt8.toNat_xor, Nat.testBit_xor]
    congr 1
    rw [show UInt8.ofNat (2 ^ (t % 8)) = UInt8.ofNat (2 ^ ((⟨t % 8, by omega⟩ : Fin 8)).1) from rfl, pow_bit ⟨t % 8, by omega⟩ ⟨i % 8, by omega⟩]
    simp only
    congr 1
    apply propext
    omega
  · have e2 : decide (i = t) = false := decide_eq_false (fun h => e (by rw [h]))
    rw [e2, Bool.xor_false, List.getD_eq_getElem?_getD, List.getElem?_set_ne (fun h => e h.symm), ← List.getD_eq_getElem?_getD]
def flipC (p : List UInt8) (a : Nat) (m : UInt32) (j : Nat) : Bool := m.toNat.testBit j && decide (a + j < 8 * p.length)
def flipTo (p : List UInt8) (a : Nat) (m : UInt32) : Nat → List UInt8
  | 0 => p
  | j + 1 => if flipC p a m j then turnBit (flipTo p a m j) (a + j) else flipTo p a m j
def flipN (p : List UInt8) (a : Nat) (m : UInt32) : Nat → Nat
  | 0 => 0
  | j + 1 => if flipC p a m j then flipN p a m j + 1 else flipN p a m j
theorem flipTo_len (p : List UInt8) (a : Nat) (m : UInt32) (j : Nat) : (flipTo p a m j).length = p.length := by
  induction j with
  | zero => rfl
  | succ j ih => rw [flipTo]; split <;> simp [turnBit_len, ih]
theorem flipN_le (p : List UInt8) (a : Nat) (m : UInt32) (j : Nat) : flipN p a m j ≤ j := by
  induction j with
  | zero => exact Nat.le_refl _
  | succ j ih => rw [flipN]; split <;> omega
theorem flipN_pos {p : List UInt8} {a : Nat} {m : UInt32} {j : Nat} (h : flipN p a m j ≠ 0) : ∃ k, k < j ∧ flipC p a m k = true := by
  induction j with
  | zero => exact absurd rfl h
  | succ j ih =>
    rw [flipN] at h
    split at h
    · exact ⟨j, by omega, by assumption⟩
    · obtain ⟨k, hk, hc⟩ := ih h
      exact ⟨k, by omega, hc⟩
theorem flip_bit (p : List UInt8) (a : Nat) (m : UInt32) (j : Nat) (i : Nat) : bitAt (flipTo p a m j) i = (bitAt p i).xor (decide (a ≤ i ∧ i < a + j) && flipC p a m (i - a)) := by
  induction j with
  | zero =>
    have : decide (a ≤ i ∧ i < a + 0) = false := decide_eq_false (by omega)
    rw [this]; simp [flipTo]
  | succ j ih =>
    rw [flipTo]
    cases hc : flipC p a m j with
    | true =>
      have hlt : a + j < 8 * p.length := by
        unfold flipC at hc
        simp only [Bool.and_eq_true, decide_eq_true_eq] at hc
        exact hc.2
      rw [if_pos rfl, bitAt_turn (by rw [flipTo_len]; exact hlt), ih]
      by_cases e : i = a + j
      · subst e
        rw [decide_eq_false (show ¬ (a ≤ a + j ∧ a + j < a + j) by omega), decide_eq_true (show a ≤ a + j ∧ a + j < a + (j + 1) by omega), show a + j - a = j by omega, hc]
        simp
      · rw [decide_eq_false e, Bool.xor_false]
        by_cases e2 : a ≤ i ∧ i < a + j
        · rw [decide_eq_true e2, decide_eq_true (show a ≤ i ∧ i < a + (j + 1) by omega)]
        · rw [decide_eq_false e2, decide_eq_false (show ¬ (a ≤ i ∧ i < a + (j + 1)) by omega)]
    | false =>
      rw [if_neg (by decide), ih]
      by_cases e : i = a + j
      · subst e
        rw [decide_eq_false (show ¬ (a ≤ a + j ∧ a + j < a + j) by omega), show a + j - a = j by omega, hc]
        simp
      · by_cases e2 : a ≤ i ∧ i < a + j
        · rw [decide_eq_true e2, decide_eq_true (show a ≤ i ∧ i < a + (j + 1) by omega)]
        · rw [decide_eq_false e2, decide_eq_false (show ¬ (a ≤ i ∧ i < a + (j + 1)) by omega)]
theorem bitAt_xorL {p q : List UInt8} (h : p.length = q.length) (i : Nat) : bitAt (xorL p q) i = (bitAt p i).xor (bitAt q i) := by
  by_cases hi : i / 8 < p.length
  · have e1 : p[i / 8]? = some p[i / 8] := List.getElem?_eq_getElem hi
    have e2 : q[i / 8]? = some (q[i / 8]'(by omega)) := List.getElem?_eq_getElem (by omega)
    unfold bitAt
    rw [← Nat.testBit_xor, ← UInt8.toNat_xor]
    have e3 : (xorL p q)[i / 8]? = some (p[i / 8] ^^^ q[i / 8]'(by omega)) := by unfold xorL; rw [List.getElem?_zipWith, e1, e2]
    rw [List.getD_eq_getElem?_getD, List.getD_eq_getElem?_getD, List.getD_eq_getElem?_getD, e1, e2, e3]
    rfl
  · rw [bitAt_far (xorL p q) _ (by rw [xorL_length h]; omega), bitAt_far p _ (by omega), bitAt_far q _ (by omega)]
    rfl
theorem flip_tells (p : List UInt8) (a : Nat) (m : UInt32) (hn : flipN p a m 32 ≠ 0) : crcMore 0 p ≠ crcMore 0 (flipTo p a m 32) := by
  obtain ⟨j, hj, hc⟩ := flipN_pos hn
  have hl : p.length = (flipTo p a m 32).length := (flipTo_len p a m 32).symm
  have hb : ∀ i, bitAt (xorL p (flipTo p a m 32)) i = (decide (a ≤ i ∧ i < a + 32) && flipC p a m (i - a)) := fun i => by
    rw [bitAt_xorL hl, flip_bit]
    cases bitAt p i <;> cases (decide (a ≤ i ∧ i < a + 32) && flipC p a m (i - a)) <;> rfl
  refine crc_tells hl a j hj (fun i hi => ?_) (fun i hi => ?_) ?_
  · rw [hb, decide_eq_false (by omega)]; rfl
  · rw [hb, decide_eq_false (by omega)]; rfl
  · rw [hb, decide_eq_true (by omega), show a + j - a = j by omega, hc]; rfl
end Go.Proofs.YtepikbmlhejobaaDoor
