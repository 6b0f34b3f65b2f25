/- SHA-256: a Hash in memory; what Write does to it, in plain lists. -/
import Derived.Test.YtepikbmlhejobaaDoorShaMix
import Derived.Laws.CopyOwn
import Derived.Deep.DeepCutAuto
import Derived.Deep.CutBlock
namespace Go.Proofs.YtepikbmlhejobaaDoor
open Go.RowKit

def hashL (s : S8) (part : List UInt8) (held cnt : Nat) : List Value := s.list.map enc32 ++ (part.map encB ++ [.int .i64 held, .int .u64 cnt])
def hashC (s : S8) (part : List UInt8) (held cnt : Nat) : Array Value := (hashL s part held cnt).toArray
theorem hashL_len (s : S8) {part : List UInt8} (h : part.length = 64) (held cnt : Nat) : (hashL s part held cnt).length = 74 := by simp [hashL, S8.list, h]
theorem hashC_size (s : S8) {part : List UInt8} (h : part.length = 64) (held cnt : Nat) : (hashC s part held cnt).size = 74 := by simp [hashC, hashL_len s h]
theorem hashC_held (s : S8) {part : List UInt8} (h : part.length = 64) (held cnt : Nat) : (hashC s part held cnt)[72]? = some (.int .i64 held) := by
  simp only [hashC, hashL, List.getElem?_toArray]
  rw [List.getElem?_append_right (by simp [S8.list]), List.getElem?_append_right (by simp [S8.list, h])]
  simp [S8.list, h]
theorem hashC_cnt (s : S8) {part : List UInt8} (h : part.length = 64) (held cnt : Nat) : (hashC s part held cnt)[73]? = some (.int .u64 cnt) := by
  simp only [hashC, hashL, List.getElem?_toArray]
  rw [List.getElem?_append_right (by simp [S8.list]), List.getElem?_append_right (by simp [S8.list, h])]
  simp [S8.list, h]
theorem hashC_set_held (s : S8) {part : List UInt8} (h : part.length = 64) (held cnt n : Nat) : (hashC s part held cnt).setIfInBounds 72 (.int .i64 n) = hashC s part n cnt := by
  simp only [hashC, List.setIfInBounds_toArray, hashL]
  rw [List.set_append_right _ _ (by simp [S8.list]), List.set_append_right _ _ (by simp [S8.list, h])]
  simp [S8.list, h]
theorem hashC_set_cnt (s : S8) {part : List UInt8} (h : part.length = 64) (held cnt n : Nat) : (hashC s part held cnt).setIfInBounds 73 (.int .u64 n) = hashC s part held n := by
  simp only [hashC, List.setIfInBounds_toArray, hashL]
  rw [List.set_append_right _ _ (by simp [S8.list]), List.set_append_right _ _ (by simp [S8.list, h])]
  simp [S8.list, h]
theorem hashL_words (s : S8) (part : List UInt8) (held cnt : Nat) {j : Nat} {v : Value} (h : (s.list.map enc32)[j]? = some v) : (hashC s part held cnt)[0 + j]? = some v := by
  have := (List.getElem?_eq_some_iff.1 h).1
  simp only [hashC, hashL, List.getElem?_toArray, Nat.zero_add]
  rw [List.getElem?_append_left this]
  exact h
theorem hashL_part (s : S8) (part : List UInt8) (held cnt : Nat) {j : Nat} {v : Value} (h : (part.map encB)[j]? = some v) : (hashC s part held cnt)[8 + j]? = some v := by
  have := (List.getElem?_eq_some_iff.1 h).1
  simp only [hashC, hashL, List.getElem?_toArray]
  rw [List.getElem?_append_right (by simp [S8.list])]
  simp only [S8.list, List.length_map, List.length_cons, List.length_nil]
  rw [show 8 + j - (0 + 1 + 1 + 1 + 1 + 1 + 1 + 1 + 1) = j from by omega, List.getElem?_append_left this]
  exact h
/-- bytes over the part, from the place held on -/
theorem splice_part (s : S8) {part : List UInt8} (h : part.length = 64) (held cnt n : Nat) (bs : List UInt8) (hb : n + bs.length ≤ 64) : splice (hashL s part held cnt) (8 + n) (bs.map encB) = hashL s (splice part n bs) held cnt := by
  have e8 : (s.list.map enc32).length = 8 := rfl
  have t : ∀ (a b : List Value), a.length = 8 → (a ++ b).take (8 + n) = a ++ b.take n := fun a b ha => by rw [List.take_append, ha, List.take_of_length_le (by omega), show 8 + n - 8 = n from by omega]
  have d : ∀ (a b : List Value) (m : Nat), a.length = 8 → (a ++ b).drop (8 + n + m) = b.drop (n + m) := fun a b m ha => by rw [List.drop_append, ha, List.drop_of_length_le (by omega), List.nil_append, show 8 + n + m - 8 = n + m from by omega]
  unfold splice hashL
  rw [t _ _ e8, d _ _ _ e8, List.length_map]
  rw [List.take_append_of_le_length (by simp; omega), List.drop_append_of_le_length (by simp; omega)]
  simp only [List.map_append, List.map_take, List.map_drop, List.append_assoc]
/-- the words anew -/
theorem splice_words (s s' : S8) (part : List UInt8) (held cnt : Nat) : splice (hashL s part held cnt) 0 (s'.list.map enc32) = hashL s' part held cnt := by
  have e8 : (s.list.map enc32).length = 8 := rfl
  have e8' : (s'.list.map enc32).length = 8 := rfl
  unfold splice hashL
  rw [List.take_zero, List.nil_append, e8', List.drop_append, e8, List.drop_of_length_le (by omega), List.nil_append]
  rfl
theorem Blk.setCells {w : World} {g o : Nat} {t : TypeId} {L : List Value} (h : Blk w g t L.toArray) (vs : List Value) (hle : o + vs.length ≤ L.length) : Blk (w.setCells g o vs) g t (splice L o vs).toArray := by
  obtain ⟨cs', h1, h2, h3, h4⟩ := setCells_row vs o w g L.toArray t (0, 0) h
  have : cs'.toList = splice L o vs := by
    apply List.ext_getElem?
    intro i
    rw [Array.getElem?_toList]
    unfold splice
    rcases Nat.lt_or_ge i o with hi | hi
    · rw [h3 i (.inl hi), List.getElem?_toArray, List.getElem?_append_left (by simp; omega), List.getElem?_take, if_pos hi]
    · rw [List.getElem?_append_right (by simp; omega), List.length_take, Nat.min_eq_left (by omega)]
      rcases Nat.lt_or_ge (i - o) vs.length with hj | hj
      · rw [List.getElem?_append_left hj]
        have := h4 (by simpa using hle) (i - o) _ (List.getElem?_eq_getElem hj)
        rw [show o + (i - o) = i from by omega] at this
        rw [this, List.getElem?_eq_getElem hj]
      · rw [List.getElem?_append_right hj, h3 i (.inr (by omega)), List.getElem?_toArray, List.getElem?_drop]
        congr 1
        omega
  unfold Blk
  rw [h1, ← this]
theorem splice_len {α : Type} {L : List α} {o : Nat} {cs : List α} (h : o + cs.length ≤ L.length) : (splice L o cs).length = L.length := length_splice L o cs h
theorem splice_take {α : Type} {L : List α} {o : Nat} {cs : List α} (h : o + cs.length ≤ L.length) : (splice L o cs).take (o + cs.length) = L.take o ++ cs := by
  unfold splice
  rw [← List.append_assoc, List.take_left' (by simp; omega)]
/-- a Hash that was given l, its count apart -/
def HashS (w : World) (H : Nat) (ks : List UInt32) (s0 : S8) (l : List UInt8) (cnt : Nat) : Prop := ∃ part, part.length = 64 ∧ Blk w H 62 (hashC (chainN ks (l.length / 64) s0 l) part (l.length % 64) cnt) ∧ part.take (l.length % 64) = restOf l
theorem rest_append (l m : List UInt8) (h : l.length % 64 + m.length < 64) : restOf (l ++ m) = restOf l ++ m := by
  unfold restOf
  rw [List.length_append, show (l.length + m.length) / 64 = l.length / 64 from by omega, List.drop_append_of_le_length (by omega)]
theorem chain_append (ks : List UInt32) (s0 : S8) (l m : List UInt8) (h : l.length % 64 + m.length < 64) : chainN ks ((l ++ m).length / 64) s0 (l ++ m) = chainN ks (l.length / 64) s0 l := by
  rw [List.length_append, show (l.length + m.length) / 64 = l.length / 64 from by omega, chainN_append _ _ _ _ _ (by omega)]
theorem chain_full (ks : List UInt32) (s0 : S8) (l m : List UInt8) (h : l.length % 64 + m.length = 64) : chainN ks ((l ++ m).length / 64) s0 (l ++ m) = mixL ks (chainN ks (l.length / 64) s0 l) (restOf l ++ m) := by
  rw [List.length_append, show (l.length + m.length) / 64 = l.length / 64 + 1 from by omega, chainN_succ, chainN_append _ _ _ _ _ (by omega)]
  congr 1
  unfold restOf
  rw [List.drop_append_of_le_length (by omega), List.take_of_length_le (by rw [List.length_append, List.length_drop]; omega)]
theorem rest_full (l m : List UInt8) (h : l.length % 64 + m.length = 64) : (l ++ m).length % 64 = 0 ∧ restOf (l ++ m) = [] := by
  have e : (l ++ m).length % 64 = 0 := by rw [List.length_append]; omega
  refine ⟨e, List.eq_nil_of_length_eq_zero ?_⟩
  rw [restOf_len, e]
end Go.Proofs.YtepikbmlhejobaaDoor
