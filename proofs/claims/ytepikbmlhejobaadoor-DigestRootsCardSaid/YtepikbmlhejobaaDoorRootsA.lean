/- Numbers as lists of digits to the base 65536: plain laws. -/
import Derived.Test.YtepikbmlhejobaaDoorSha
namespace Go.Proofs.YtepikbmlhejobaaDoor
/-- the number of the first n digits -/
def valF (f : Nat → Nat) : Nat → Nat
  | 0 => 0
  | n + 1 => valF f n + f n * 65536 ^ n
def dg (l : List Nat) (i : Nat) : Nat := l.getD i 0
def valL (l : List Nat) : Nat := valF (dg l) l.length
/-- digits -/
def Digs (l : List Nat) : Prop := ∀ i, dg l i < 65536
theorem valF_lt {f : Nat → Nat} (h : ∀ i, f i < 65536) : ∀ n, valF f n < 65536 ^ n
  | 0 => by simp [valF]
  | n + 1 => by
    have h1 := valF_lt h n
    have h2 : f n * 65536 ^ n ≤ 65535 * 65536 ^ n := Nat.mul_le_mul_right _ (by have := h n; omega)
    show valF f n + f n * 65536 ^ n < 65536 ^ (n + 1)
    rw [Nat.pow_succ]
    omega
theorem valF_zero {f : Nat → Nat} {n m : Nat} (hnm : n ≤ m) (h : ∀ i, n ≤ i → f i = 0) : valF f m = valF f n := by
  induction m with
  | zero => rw [Nat.le_zero.1 hnm]
  | succ m ih =>
    rcases Nat.lt_or_ge m n with h1 | h1
    · rw [show n = m + 1 by omega]
    · rw [valF, h m h1, Nat.zero_mul, Nat.add_zero, ih h1]
theorem valF_congr {f g : Nat → Nat} : ∀ {n : Nat}, (∀ i, i < n → f i = g i) → valF f n = valF g n
  | 0, _ => rfl
  | n + 1, h => by rw [valF, valF, valF_congr (fun i hi => h i (by omega)), h n (by omega)]
theorem dg_out {l : List Nat} {i : Nat} (h : l.length ≤ i) : dg l i = 0 := by unfold dg; rw [List.getD_eq_getElem?_getD, List.getElem?_eq_none h]; rfl
theorem dg_in {l : List Nat} {i x : Nat} (h : l[i]? = some x) : dg l i = x := by unfold dg; rw [List.getD_eq_getElem?_getD, h]; rfl
theorem dg_get {l : List Nat} {i : Nat} (h : i < l.length) : l[i]? = some (dg l i) := by
  obtain ⟨x, hx⟩ : ∃ x, l[i]? = some x := ⟨_, List.getElem?_eq_getElem h⟩
  rw [hx, dg_in hx]
theorem valL_eq (l : List Nat) {n : Nat} (h : l.length ≤ n) : valL l = valF (dg l) n := (valF_zero h fun _ hi => dg_out hi).symm
theorem dg_set {l : List Nat} {p x : Nat} (hp : p < l.length) (i : Nat) : dg (l.set p x) i = if i = p then x else dg l i := by
  unfold dg
  rw [List.getD_eq_getElem?_getD, List.getD_eq_getElem?_getD, List.getElem?_set]
  by_cases h : p = i
  · subst h; simp [hp]
  · rw [if_neg h, if_neg (fun e => h e.symm)]
theorem valF_set {f g : Nat → Nat} {p x : Nat} (hg : ∀ i, g i = if i = p then x else f i) : ∀ {n : Nat}, p < n → valF g n + f p * 65536 ^ p = valF f n + x * 65536 ^ p
  | 0, h => by omega
  | n + 1, h => by
    rw [valF, valF]
    rcases Nat.lt_or_ge p n with h1 | h1
    · have ih := valF_set hg h1
      rw [hg n, if_neg (by omega)]
      omega
    · obtain rfl : p = n := by omega
      have e : valF g p = valF f p := valF_congr fun i hi => by rw [hg i, if_neg (by omega)]
      rw [e, hg p, if_pos rfl]
      omega
theorem digs_set {l : List Nat} {p x : Nat} (hl : Digs l) (hp : p < l.length) (hx : x < 65536) : Digs (l.set p x) := fun i => by
  rw [dg_set hp]
  split
  · exact hx
  · exact hl i
theorem valF_null {f : Nat → Nat} (h : ∀ i, f i = 0) : ∀ n, valF f n = 0
  | 0 => rfl
  | n + 1 => by rw [valF, valF_null h n, h n, Nat.zero_mul]
theorem dg_null (n q : Nat) : dg (List.replicate n 0) q = 0 := by
  unfold dg
  rw [List.getD_eq_getElem?_getD, List.getElem?_replicate]
  split <;> rfl
/-- one step of the product -/
theorem inner_step {V0 vc vc' ca cij ai bj x P Pi Pj vb : Nat} (hP : P = Pi * Pj) (hx : x = cij + ai * bj + ca) (hset : vc' + cij * P = vc + (x % 65536) * P) (hinv : vc + ca * P = V0 + ai * Pi * vb) :
    vc' + (x / 65536) * (P * 65536) = V0 + ai * Pi * (vb + bj * Pj) := by
  have e1 : (x % 65536) * P + (x / 65536) * (P * 65536) = x * P := by
    have h := Nat.mod_add_div x 65536
    generalize x % 65536 = r at *
    generalize x / 65536 = q at *
    rw [← h, Nat.add_mul, Nat.mul_comm P 65536, ← Nat.mul_assoc, Nat.mul_comm q 65536]
  have e2 : x * P = cij * P + ai * bj * P + ca * P := by rw [hx, Nat.add_mul, Nat.add_mul]
  have e3 : ai * bj * P = ai * Pi * (bj * Pj) := by rw [hP]; ac_rfl
  rw [Nat.mul_add]
  omega
theorem mul_small {a b : Nat} (ha : a < 65536) (hb : b < 65536) : a * b ≤ 4294836225 := Nat.mul_le_mul (show a ≤ 65535 by omega) (show b ≤ 65535 by omega)
/-- two numbers that agree from place i + 1 on, and not at i -/
theorem cmp_step {va vb x y P : Nat} (ha : va < P) (hb : vb < P) (hne : x ≠ y) : (vb + y * P < va + x * P) ↔ y < x := by
  constructor
  · intro h
    rcases Nat.lt_or_ge y x with h1 | h1
    · exact h1
    · have h2 : (x + 1) * P ≤ y * P := Nat.mul_le_mul_right _ (by omega)
      rw [Nat.add_mul] at h2
      omega
  · intro h
    have h2 : (y + 1) * P ≤ x * P := Nat.mul_le_mul_right _ (by omega)
    rw [Nat.add_mul] at h2
    omega
theorem valF_agree {f g : Nat → Nat} {k : Nat} (h : ∀ q, k ≤ q → f q = g q) : ∀ {n : Nat}, k ≤ n → valF f n + valF g k = valF g n + valF f k
  | 0, hn => by obtain rfl : k = 0 := by omega
                rfl
  | n + 1, hn => by
    rcases Nat.lt_or_ge n k with h1 | h1
    · obtain rfl : k = n + 1 := by omega
      omega
    · have ih := valF_agree h h1
      rw [valF, valF, h n h1]
      omega
theorem above_eq {a b : List Nat} (h : ∀ q, dg a q = dg b q) : ¬ valL b < valL a := by
  have e := valF_agree (k := 0) (fun q _ => h q) (Nat.zero_le (max a.length b.length))
  rw [valL_eq a (Nat.le_max_left _ b.length), valL_eq b (Nat.le_max_right a.length _)]
  simp only [valF] at e
  omega
theorem above_ne {a b : List Nat} {k : Nat} (h : ∀ q, k + 1 ≤ q → dg a q = dg b q) (hne : dg a k ≠ dg b k) (ha : Digs a) (hb : Digs b) : (valL b < valL a) ↔ dg b k < dg a k := by
  have hk : k + 1 ≤ max a.length b.length := by
    rcases Nat.lt_or_ge k (max a.length b.length) with h1 | h1
    · exact h1
    · exact absurd ((dg_out (Nat.le_trans (Nat.le_max_left _ _) h1)).trans (dg_out (Nat.le_trans (Nat.le_max_right _ _) h1)).symm) hne
  have e := valF_agree h hk
  rw [valL_eq a (Nat.le_max_left _ b.length), valL_eq b (Nat.le_max_right a.length _)]
  have e2 : valF (dg a) (k + 1) = valF (dg a) k + dg a k * 65536 ^ k := rfl
  have e3 : valF (dg b) (k + 1) = valF (dg b) k + dg b k * 65536 ^ k := rfl
  have c := cmp_step (valF_lt ha k) (valF_lt hb k) hne
  rw [← c]
  omega
theorem valL_limbs (x : Nat) : valL [x % 65536, x / 65536 % 65536, x / 65536 / 65536] = x := by
  simp only [valL, valF, dg, List.length_cons, List.length_nil, List.getD_cons_zero, List.getD_cons_succ, Nat.pow_zero, Nat.mul_one, Nat.zero_add]
  omega
theorem valL_most (k p : Nat) : valL (List.replicate (2 * k) 0 ++ [p]) = p * 2 ^ (32 * k) := by
  have hl : (List.replicate (2 * k) 0 ++ [p]).length = 2 * k + 1 := by simp
  have h0 : valF (dg (List.replicate (2 * k) 0 ++ [p])) (2 * k) = 0 := by
    have : ∀ n, n ≤ 2 * k → valF (dg (List.replicate (2 * k) 0 ++ [p])) n = 0 := fun n => by
      induction n with
      | zero => exact fun _ => rfl
      | succ n ih =>
        intro hn
        have e : dg (List.replicate (2 * k) 0 ++ [p]) n = 0 := dg_in (by rw [List.getElem?_append_left (by simp; omega), List.getElem?_replicate, if_pos (by omega)])
        rw [valF, ih (by omega), e]
        simp
    exact this _ (Nat.le_refl _)
  have e : dg (List.replicate (2 * k) 0 ++ [p]) (2 * k) = p := dg_in (by rw [List.getElem?_append_right (by simp)]; simp)
  unfold valL
  rw [hl, valF, h0, e, Nat.zero_add, show (65536 : Nat) = 2 ^ 16 from rfl, ← Nat.pow_mul]
  congr 2
  omega
/-- the root, bit by bit: behind the first s bits -/
def rootTo (p k : Nat) : Nat → Nat
  | 0 => 0
  | s + 1 => let x := rootTo p k s; let y := x + 2 ^ (39 - s); if p * 2 ^ (32 * k) < y ^ k then x else y
theorem rootTo_le (p k : Nat) : ∀ s, s ≤ 40 → rootTo p k s + 2 ^ (40 - s) ≤ 2 ^ 40
  | 0, _ => by simp [rootTo]
  | s + 1, h => by
    have ih := rootTo_le p k s (by omega)
    have e : 2 ^ (40 - s) = 2 ^ (39 - s) + 2 ^ (39 - s) := by rw [show 40 - s = (39 - s) + 1 by omega, Nat.pow_succ]; omega
    have e2 : 40 - (s + 1) = 39 - s := by omega
    rw [e2]
    rw [e] at ih
    show (if p * 2 ^ (32 * k) < (rootTo p k s + 2 ^ (39 - s)) ^ k then rootTo p k s else rootTo p k s + 2 ^ (39 - s)) + 2 ^ (39 - s) ≤ 2 ^ 40
    generalize 2 ^ (39 - s) = b at *
    split <;> omega
/-- the primes by trial: those below t + 2 -/
def plist : Nat → List Nat
  | 0 => []
  | t + 1 => if (plist t).all (fun q => (t + 2) % q != 0) then plist t ++ [t + 2] else plist t
theorem plist_mono (t : Nat) : ∀ s, (plist t).length ≤ (plist (t + s)).length
  | 0 => Nat.le_refl _
  | s + 1 => Nat.le_trans (plist_mono t s) (by rw [← Nat.add_assoc, plist]; split <;> simp)
theorem plist_lt {t : Nat} (h : t < 310) : (plist t).length < 64 := Nat.lt_of_le_of_lt (by have := plist_mono t (309 - t); rwa [show t + (309 - t) = 309 by omega] at this) (show (plist 309).length < 64 by decide +kernel)
theorem plist_ge : ∀ (t q : Nat), q ∈ plist t → 2 ≤ q ∧ q < t + 2
  | 0, q, h => by simp [plist] at h
  | t + 1, q, h => by
    rw [plist] at h
    split at h
    · rcases List.mem_append.1 h with h | h
      · have := plist_ge t q h; omega
      · have := List.mem_singleton.1 h; omega
    · have := plist_ge t q h; omega
def primes64 : List Nat := plist 310
theorem primes64_len : primes64.length = 64 := by decide +kernel
end Go.Proofs.YtepikbmlhejobaaDoor
