/- SHA-256: what it is, in plain Lean: rotation, a chunk's words, a round, a chunk, a message. Nothing here is about the program. -/
import Derived.Test.YtepikbmlhejobaaDoorMem
namespace Go.Proofs.YtepikbmlhejobaaDoor
open Go.RowKit

def rotrL (x : UInt32) (n : Nat) : UInt32 := (x >>> UInt32.ofNat n) ||| (x <<< UInt32.ofNat (32 - n))
def sg0 (x : UInt32) : UInt32 := rotrL x 7 ^^^ rotrL x 18 ^^^ (x >>> 3)
def sg1 (x : UInt32) : UInt32 := rotrL x 17 ^^^ rotrL x 19 ^^^ (x >>> 10)
def word4 (a b c d : UInt8) : UInt32 := a.toUInt32 <<< 24 ||| b.toUInt32 <<< 16 ||| c.toUInt32 <<< 8 ||| d.toUInt32
def byteAt (c : List UInt8) (i : Nat) : UInt8 := c.getD i 0
def wordAt (c : List UInt8) (t : Nat) : UInt32 := word4 (byteAt c (4 * t)) (byteAt c (4 * t + 1)) (byteAt c (4 * t + 2)) (byteAt c (4 * t + 3))
def wAt (l : List UInt32) (i : Nat) : UInt32 := l.getD i 0
def nextW (l : List UInt32) (t : Nat) : UInt32 := sg1 (wAt l (t - 2)) + wAt l (t - 7) + sg0 (wAt l (t - 15)) + wAt l (t - 16)
/-- the first t words -/
def sched (c : List UInt8) : Nat → List UInt32
  | 0 => []
  | t + 1 => sched c t ++ [if t < 16 then wordAt c t else nextW (sched c t) t]
theorem sched_len (c : List UInt8) (t : Nat) : (sched c t).length = t := by
  induction t with
  | zero => rfl
  | succ t ih => rw [sched, List.length_append, ih]; rfl
/-- the words so far, the others zero -/
def schedZ (c : List UInt8) (t : Nat) : List UInt32 := sched c t ++ List.replicate (64 - t) 0
theorem schedZ_len (c : List UInt8) {t : Nat} (h : t ≤ 64) : (schedZ c t).length = 64 := by simp [schedZ, sched_len]; omega
theorem schedZ_all (c : List UInt8) : schedZ c 64 = sched c 64 := by simp [schedZ]
theorem schedZ_set (c : List UInt8) {t : Nat} (h : t < 64) : (schedZ c t).set t (if t < 16 then wordAt c t else nextW (sched c t) t) = schedZ c (t + 1) := by
  unfold schedZ
  rw [List.set_append_right _ _ (by rw [sched_len]; omega), sched_len, Nat.sub_self, show 64 - t = (64 - (t + 1)) + 1 from by omega, List.replicate_succ, List.set_cons_zero, sched, List.append_assoc]
  rfl
theorem schedZ_get (c : List UInt8) {t i : Nat} (h : i < t) : (schedZ c t)[i]? = some (wAt (sched c t) i) := by
  unfold schedZ wAt
  rw [List.getElem?_append_left (by rw [sched_len]; exact h), List.getD_eq_getElem?_getD, List.getElem?_eq_getElem (by rw [sched_len]; exact h)]
  rfl
structure S8 where
  a : UInt32
  b : UInt32
  c : UInt32
  d : UInt32
  e : UInt32
  f : UInt32
  g : UInt32
  h : UInt32
def S8.list (s : S8) : List UInt32 := [s.a, s.b, s.c, s.d, s.e, s.f, s.g, s.h]
theorem S8.list_len (s : S8) : s.list.length = 8 := rfl
def bigS1 (e : UInt32) : UInt32 := rotrL e 6 ^^^ rotrL e 11 ^^^ rotrL e 25
def bigS0 (a : UInt32) : UInt32 := rotrL a 2 ^^^ rotrL a 13 ^^^ rotrL a 22
def choiceL (e f g : UInt32) : UInt32 := (e &&& f) ^^^ ((4294967295 ^^^ e) &&& g)
def mostL (a b c : UInt32) : UInt32 := (a &&& b) ^^^ (a &&& c) ^^^ (b &&& c)
def t1L (s : S8) (k w : UInt32) : UInt32 := s.h + bigS1 s.e + choiceL s.e s.f s.g + k + w
def round1 (s : S8) (k w : UInt32) : S8 := ⟨t1L s k w + bigS0 s.a + mostL s.a s.b s.c, s.a, s.b, s.c, s.d + t1L s k w, s.e, s.f, s.g⟩
/-- the state behind t rounds -/
def roundsTo (ks ws : List UInt32) (s : S8) : Nat → S8
  | 0 => s
  | t + 1 => round1 (roundsTo ks ws s t) (wAt ks t) (wAt ws t)
def add8 (s v : S8) : S8 := ⟨s.a + v.a, s.b + v.b, s.c + v.c, s.d + v.d, s.e + v.e, s.f + v.f, s.g + v.g, s.h + v.h⟩
def mixL (ks : List UInt32) (s : S8) (c : List UInt8) : S8 := add8 s (roundsTo ks (sched c 64) s 64)
/-- the first k sums -/
def addTo (s v : S8) (k : Nat) : List UInt32 := (add8 s v).list.take k ++ s.list.drop k
theorem addTo_len (s v : S8) {k : Nat} (h : k ≤ 8) : (addTo s v k).length = 8 := by simp [addTo, S8.list]; omega
theorem addTo_all (s v : S8) : addTo s v 8 = (add8 s v).list := by simp [addTo, S8.list]
theorem addTo_zero (s v : S8) : addTo s v 0 = s.list := by simp [addTo]
theorem addTo_get (s v : S8) {k : Nat} (h : k < 8) : (addTo s v k)[k]? = some (wAt s.list k) := by
  rcases (show k = 0 ∨ k = 1 ∨ k = 2 ∨ k = 3 ∨ k = 4 ∨ k = 5 ∨ k = 6 ∨ k = 7 from by omega) with h | h | h | h | h | h | h | h <;> subst h <;> rfl
theorem addTo_set (s v : S8) {k : Nat} (h : k < 8) : (addTo s v k).set k (wAt s.list k + wAt v.list k) = addTo s v (k + 1) := by
  rcases (show k = 0 ∨ k = 1 ∨ k = 2 ∨ k = 3 ∨ k = 4 ∨ k = 5 ∨ k = 6 ∨ k = 7 from by omega) with h | h | h | h | h | h | h | h <;> subst h <;> rfl
theorem list_get (v : S8) {k : Nat} (h : k < 8) : v.list[k]? = some (wAt v.list k) := by
  rcases (show k = 0 ∨ k = 1 ∨ k = 2 ∨ k = 3 ∨ k = 4 ∨ k = 5 ∨ k = 6 ∨ k = 7 from by omega) with h | h | h | h | h | h | h | h <;> subst h <;> rfl
/-- n chunks from the head of l -/
def chainN (ks : List UInt32) : Nat → S8 → List UInt8 → S8
  | 0, s, _ => s
  | n + 1, s, l => chainN ks n (mixL ks s (l.take 64)) (l.drop 64)
theorem chainN_succ (ks : List UInt32) (n : Nat) (s : S8) (l : List UInt8) : chainN ks (n + 1) s l = mixL ks (chainN ks n s l) ((l.drop (64 * n)).take 64) := by
  induction n generalizing s l with
  | zero => rfl
  | succ n ih =>
    rw [chainN, ih, chainN, List.drop_drop, show 64 + 64 * n = 64 * (n + 1) from by omega]
theorem chainN_append (ks : List UInt32) (n : Nat) (s : S8) (l m : List UInt8) (h : 64 * n ≤ l.length) : chainN ks n s (l ++ m) = chainN ks n s l := by
  induction n generalizing s l with
  | zero => rfl
  | succ n ih => rw [chainN, chainN, List.take_append_of_le_length (by omega), List.drop_append_of_le_length (by omega), ih _ _ (by rw [List.length_drop]; omega)]
/-- the bytes that wait for a whole chunk -/
def restOf (l : List UInt8) : List UInt8 := l.drop (64 * (l.length / 64))
theorem restOf_len (l : List UInt8) : (restOf l).length = l.length % 64 := by unfold restOf; rw [List.length_drop]; omega
/-- zeroes between the mark and the length -/
def zerosOf (n : Nat) : Nat := (119 - n % 64) % 64
def be64 (n : Nat) : List UInt8 := (List.range 8).map fun i => UInt8.ofNat (n / 2 ^ (56 - 8 * i))
def paddedL (l : List UInt8) : List UInt8 := l ++ [128] ++ List.replicate (zerosOf l.length) 0 ++ be64 (8 * l.length)
theorem paddedL_len (l : List UInt8) : 64 * ((paddedL l).length / 64) = (paddedL l).length ∧ (paddedL l).length = l.length + zerosOf l.length + 9 := by
  have : (paddedL l).length = l.length + zerosOf l.length + 9 := by simp [paddedL, be64]; omega
  unfold zerosOf at *
  omega
def bytes4 (x : UInt32) : List UInt8 := [(x >>> 24).toUInt8, (x >>> 16).toUInt8, (x >>> 8).toUInt8, x.toUInt8]
def bytesOf (s : S8) : List UInt8 := s.list.flatMap bytes4
theorem bytesOf_len (s : S8) : (bytesOf s).length = 32 := rfl
def digestL (ks : List UInt32) (s : S8) (l : List UInt8) : List UInt8 := bytesOf (chainN ks ((paddedL l).length / 64) s (paddedL l))
theorem digestL_len (ks : List UInt32) (s : S8) (l : List UInt8) : (digestL ks s l).length = 32 := rfl
end Go.Proofs.YtepikbmlhejobaaDoor
