/- The Lru of package actlog, plain: places, the idle ones, what each call answers and leaves. No memory, no walk. -/
import Derived.Test.YtiidheknlacioaaMem
namespace Go.Proofs.Ytiidheknlacioaa
set_option linter.unusedVariables false
set_option linter.unusedSimpArgs false

/-- a place: nothing, or a key and its references -/
abbrev Plc := Option (Int × Int)
structure LruS where
  ps : List Plc
  idle : List Nat
def isKeyP (key : Int) (p : Plc) : Bool := match p with | some x => x.1 == key | none => false
def slotS (s : LruS) (key : Int) : Option Nat := s.ps.findIdx? (isKeyP key)
def freeS (s : LruS) : Option Nat := s.ps.findIdx? (·.isNone)
def plcAt (s : LruS) (i : Nat) : Int × Int := ((s.ps[i]?).join).getD (0, 0)
inductive GetO where
  | hit (at_ : Nat)
  | fresh (at_ : Nat)
  | evict (at_ : Nat) (old : Int)
  | starved
def getO (s : LruS) (key : Int) : GetO := match slotS s key with
  | some i => .hit i
  | none => match freeS s with
    | some i => .fresh i
    | none => match s.idle with
      | [] => .starved
      | i :: _ => .evict i (plcAt s i).1
def hitT (s : LruS) (key : Int) (i : Nat) : LruS := ⟨s.ps.set i (some (key, (plcAt s i).2 + 1)), if (plcAt s i).2 = 0 then s.idle.filter (fun j => !decide (j = i)) else s.idle⟩
def freshT (s : LruS) (key : Int) (i : Nat) : LruS := ⟨s.ps.set i (some (key, 1)), s.idle⟩
def evictT (s : LruS) (key : Int) (i : Nat) : LruS := ⟨s.ps.set i (some (key, 1)), s.idle.drop 1⟩
def getT (s : LruS) (key : Int) : LruS := match getO s key with
  | .hit i => hitT s key i
  | .fresh i => freshT s key i
  | .evict i _ => evictT s key i
  | .starved => s
def putR (s : LruS) (key : Int) : Int := match slotS s key with
  | none => 42
  | some i => if (plcAt s i).2 = 0 then 42 else 0
def backT (s : LruS) (key : Int) (i : Nat) : LruS := ⟨s.ps.set i (some (key, (plcAt s i).2 - 1)), if (plcAt s i).2 - 1 = 0 then s.idle ++ [i] else s.idle⟩
def putT (s : LruS) (key : Int) : LruS := match slotS s key with
  | none => s
  | some i => if (plcAt s i).2 = 0 then s else backT s key i
def refsS (s : LruS) (key : Int) : Int := match slotS s key with | none => 0 | some i => (plcAt s i).2
def slotI (s : LruS) (key : Int) : Int := match slotS s key with | none => -1 | some i => i
def busyK (p : Plc) : Option Int := match p with | some x => if 0 < x.2 then some x.1 else none | none => none
def keysS (s : LruS) : List Int := s.idle.map (fun i => (plcAt s i).1) ++ s.ps.filterMap busyK
structure LruOk (s : LruS) : Prop where
  keys : ∀ (i j : Nat) (k r r' : Int), s.ps[i]? = some (some (k, r)) → s.ps[j]? = some (some (k, r')) → i = j
  refs : ∀ (i : Nat) (k r : Int), s.ps[i]? = some (some (k, r)) → 0 ≤ r
  idle : ∀ i : Nat, i ∈ s.idle ↔ ∃ k, s.ps[i]? = some (some (k, 0))
  nodup : s.idle.Nodup
section
variable {s : LruS} {key : Int}
theorem plcAt_eq {i : Nat} {x : Int × Int} (h : s.ps[i]? = some (some x)) : plcAt s i = x := by unfold plcAt; rw [h]; rfl
theorem slotS_some {i : Nat} (h : slotS s key = some i) : s.ps[i]? = some (some (key, (plcAt s i).2)) ∧ i < s.ps.length ∧ ∀ j : Nat, j < i → ∀ r : Int, s.ps[j]? ≠ some (some (key, r)) := by
  unfold slotS at h
  rw [List.findIdx?_eq_some_iff_getElem] at h
  obtain ⟨hi, h1, h2⟩ := h
  have hg : s.ps[i]? = some s.ps[i] := List.getElem?_eq_getElem hi
  cases hp : s.ps[i] with
  | none => rw [hp] at h1; simp [isKeyP] at h1
  | some x =>
    rw [hp] at h1 hg
    have hx : x.1 = key := by simpa [isKeyP] using h1
    have := plcAt_eq hg
    refine ⟨by rw [this, hg, ← hx], hi, fun j hj r hr => ?_⟩
    have h3 := h2 j hj
    have hj' : j < s.ps.length := by omega
    have h4 : s.ps[j] = some (key, r) := by rw [List.getElem?_eq_getElem hj'] at hr; exact Option.some.inj hr
    rw [h4] at h3
    simp [isKeyP] at h3
theorem slotS_none (h : slotS s key = none) : ∀ (i : Nat) (r : Int), s.ps[i]? ≠ some (some (key, r)) := fun i r hr => by
  unfold slotS at h
  rw [List.findIdx?_eq_none_iff] at h
  have := h _ (List.mem_of_getElem? hr)
  simp [isKeyP] at this
theorem slotS_at (h : LruOk s) {i : Nat} {r : Int} (hi : s.ps[i]? = some (some (key, r))) : slotS s key = some i := by
  cases hs : slotS s key with
  | none => exact absurd hi (slotS_none hs i r)
  | some j => rw [h.keys _ _ _ _ _ (slotS_some hs).1 hi]
theorem freeS_some {i : Nat} (h : freeS s = some i) : s.ps[i]? = some none ∧ i < s.ps.length := by
  unfold freeS at h
  rw [List.findIdx?_eq_some_iff_getElem] at h
  obtain ⟨hi, h1, h2⟩ := h
  rw [List.getElem?_eq_getElem hi]
  refine ⟨?_, hi⟩
  cases hp : s.ps[i] with
  | none => rfl
  | some x => rw [hp] at h1; cases h1
theorem freeS_none (h : freeS s = none) : ∀ i : Nat, s.ps[i]? ≠ some none := fun i hi => by
  unfold freeS at h
  rw [List.findIdx?_eq_none_iff] at h
  have := h _ (List.mem_of_getElem? hi)
  cases this
theorem getElem?_set_ {α : Type} {l : List α} {i j : Nat} {x y : α} (h : (l.set i x)[j]? = some y) : (j = i ∧ y = x ∧ i < l.length) ∨ (j ≠ i ∧ l[j]? = some y) := by
  rw [List.getElem?_set] at h
  split at h
  · rename_i e
    subst e
    split at h
    · cases h; exact .inl ⟨rfl, rfl, by assumption⟩
    · cases h
  · rename_i e; exact .inr ⟨fun e' => e e'.symm, h⟩
theorem getElem?_set_at {α : Type} {l : List α} {i : Nat} (x : α) (h : i < l.length) : (l.set i x)[i]? = some x := by rw [List.getElem?_set, if_pos rfl, if_pos h]
theorem getElem?_set_ne {α : Type} {l : List α} {i j : Nat} (x : α) (h : j ≠ i) : (l.set i x)[j]? = l[j]? := by rw [List.getElem?_set, if_neg (Ne.symm h)]
/-- one place turned: the keys stay apart -/
theorem keys_set {l : List Plc} {i : Nat} {x : Int × Int} (hk : ∀ (i j : Nat) (k r r' : Int), l[i]? = some (some (k, r)) → l[j]? = some (some (k, r')) → i = j) (hx : ∀ (j : Nat) (r : Int), j ≠ i → l[j]? ≠ some (some (x.1, r))) :
    ∀ (a b : Nat) (k r r' : Int), (l.set i (some x))[a]? = some (some (k, r)) → (l.set i (some x))[b]? = some (some (k, r')) → a = b := by
  intro a b k r r' ha hb
  rcases getElem?_set_ ha with ⟨rfl, e1, h1⟩ | ⟨n1, h1⟩ <;> rcases getElem?_set_ hb with ⟨rfl, e2, h2⟩ | ⟨n2, h2⟩
  · rfl
  · cases e1; exact absurd h2 (hx b r' n2)
  · cases e2; exact absurd h1 (hx a r n1)
  · exact hk _ _ _ _ _ h1 h2
theorem LruOk.hit (h : LruOk s) {i : Nat} (hi : slotS s key = some i) : LruOk (hitT s key i) := by
  obtain ⟨h1, hlt, _⟩ := slotS_some hi
  have hr := h.refs _ _ _ h1
  refine ⟨keys_set h.keys fun j r hj e => hj (h.keys _ _ _ _ _ e h1), fun j k r hj => ?_, fun j => ?_, ?_⟩
  · rcases getElem?_set_ hj with ⟨rfl, e, _⟩ | ⟨_, e⟩
    · cases e; omega
    · exact h.refs _ _ _ e
  · show j ∈ (if (plcAt s i).2 = 0 then s.idle.filter (fun j => !decide (j = i)) else s.idle) ↔ ∃ k, (s.ps.set i _)[j]? = _
    by_cases e : j = i
    · subst e
      rw [getElem?_set_at _ hlt]
      constructor
      · intro hm
        split at hm
        · rw [List.mem_filter] at hm; simp at hm
        · rename_i h0
          obtain ⟨k, hk⟩ := (h.idle j).1 hm
          rw [plcAt_eq hk] at h0
          exact absurd rfl h0
      · rintro ⟨k, hk⟩
        injection hk with hk
        injection hk with hk
        injection hk with _ hk
        omega
    · rw [getElem?_set_ne _ e]
      rw [← h.idle j]
      split
      · rw [List.mem_filter]; simp [e]
      · rfl
  · show (if (plcAt s i).2 = 0 then s.idle.filter (fun j => !decide (j = i)) else s.idle).Nodup
    split
    · exact h.nodup.sublist List.filter_sublist
    · exact h.nodup
theorem LruOk.fresh (h : LruOk s) {i : Nat} (hn : slotS s key = none) (hi : freeS s = some i) : LruOk (freshT s key i) := by
  obtain ⟨h1, hlt⟩ := freeS_some hi
  refine ⟨keys_set h.keys fun j r hj e => slotS_none hn j r e, fun j k r hj => ?_, fun j => ?_, h.nodup⟩
  · rcases getElem?_set_ hj with ⟨rfl, e, _⟩ | ⟨_, e⟩
    · cases e; omega
    · exact h.refs _ _ _ e
  · show j ∈ s.idle ↔ ∃ k, (s.ps.set i _)[j]? = _
    by_cases e : j = i
    · subst e
      rw [getElem?_set_at _ hlt, h.idle j, h1]
      constructor
      · rintro ⟨k, hk⟩; cases hk
      · rintro ⟨k, hk⟩; injection hk with hk; injection hk with hk; injection hk with _ hk; omega
    · rw [getElem?_set_ne _ e, h.idle j]
theorem LruOk.evict (h : LruOk s) {i : Nat} {l : List Nat} (hn : slotS s key = none) (hi : s.idle = i :: l) : LruOk (evictT s key i) := by
  have hm : i ∈ s.idle := by rw [hi]; exact List.mem_cons_self ..
  obtain ⟨k0, h1⟩ := (h.idle i).1 hm
  have hlt := (List.getElem?_eq_some_iff.1 h1).1
  have hnd := h.nodup
  rw [hi, List.nodup_cons] at hnd
  refine ⟨keys_set h.keys fun j r hj e => slotS_none hn j r e, fun j k r hj => ?_, fun j => ?_, by show (s.idle.drop 1).Nodup; rw [hi]; exact hnd.2⟩
  · rcases getElem?_set_ hj with ⟨rfl, e, _⟩ | ⟨_, e⟩
    · cases e; omega
    · exact h.refs _ _ _ e
  · show j ∈ s.idle.drop 1 ↔ ∃ k, (s.ps.set i _)[j]? = _
    rw [hi, List.drop_succ_cons, List.drop_zero]
    by_cases e : j = i
    · subst e
      rw [getElem?_set_at _ hlt]
      constructor
      · intro hm; exact absurd hm hnd.1
      · rintro ⟨k, hk⟩; injection hk with hk; injection hk with hk; injection hk with _ hk; omega
    · rw [getElem?_set_ne _ e, ← h.idle j, hi, List.mem_cons]
      simp [e]
theorem LruOk.get (h : LruOk s) (key : Int) : LruOk (getT s key) := by
  unfold getT getO
  cases hs : slotS s key with
  | some i => exact h.hit hs
  | none =>
    dsimp only
    cases hf : freeS s with
    | some i => exact h.fresh hs hf
    | none =>
      dsimp only
      cases hi : s.idle with
      | nil => exact h
      | cons i l => exact h.evict hs hi
theorem LruOk.put (h : LruOk s) (key : Int) : LruOk (putT s key) := by
  unfold putT
  cases hs : slotS s key with
  | none => exact h
  | some i =>
    dsimp only
    split
    · exact h
    · rename_i h0
      obtain ⟨h1, hlt, _⟩ := slotS_some hs
      have hr := h.refs _ _ _ h1
      have hni : i ∉ s.idle := fun hm => by obtain ⟨k, hk⟩ := (h.idle i).1 hm; rw [plcAt_eq hk] at h0; exact h0 rfl
      refine ⟨keys_set h.keys fun j r hj e => hj (h.keys _ _ _ _ _ e h1), fun j k r hj => ?_, fun j => ?_, ?_⟩
      · rcases getElem?_set_ hj with ⟨rfl, e, _⟩ | ⟨_, e⟩
        · cases e; omega
        · exact h.refs _ _ _ e
      · show j ∈ (if (plcAt s i).2 - 1 = 0 then s.idle ++ [i] else s.idle) ↔ ∃ k, (s.ps.set i _)[j]? = _
        by_cases e : j = i
        · subst e
          rw [getElem?_set_at _ hlt]
          constructor
          · intro hm
            split at hm
            · rename_i h2; exact ⟨key, by rw [h2]⟩
            · exact absurd hm hni
          · rintro ⟨k, hk⟩
            injection hk with hk
            injection hk with hk
            injection hk with _ hk
            rw [if_pos hk]
            simp
        · rw [getElem?_set_ne _ e, ← h.idle j]
          split
          · simp [e]
          · rfl
      · show (if (plcAt s i).2 - 1 = 0 then s.idle ++ [i] else s.idle).Nodup
        split
        · exact List.nodup_append.2 ⟨h.nodup, by simp, fun a ha b hb => by obtain rfl := List.mem_singleton.1 hb; rintro rfl; exact hni ha⟩
        · exact h.nodup
theorem getT_len (s : LruS) (key : Int) : (getT s key).ps.length = s.ps.length := by
  unfold getT
  split <;> simp [hitT, freshT, evictT]
theorem putT_len (s : LruS) (key : Int) : (putT s key).ps.length = s.ps.length := by
  unfold putT
  split
  · rfl
  · split
    · rfl
    · simp [backT]
/-- no more references than calls -/
def refsLe (s : LruS) (n : Int) : Prop := ∀ (i : Nat) (k r : Int), s.ps[i]? = some (some (k, r)) → r ≤ n
theorem refsLe_at {n : Int} (hn : 0 ≤ n) (h : refsLe s n) (i : Nat) : (plcAt s i).2 ≤ n := by
  unfold plcAt
  cases hp : s.ps[i]? with
  | none => exact hn
  | some p =>
    cases p with
    | none => exact hn
    | some x => exact h i x.1 x.2 hp
theorem refsLe_get {n : Int} (hn : 0 ≤ n) (h : refsLe s n) (key : Int) : refsLe (getT s key) (n + 1) := by
  intro i k r hr
  have h1 : ∀ (j : Nat) (k r : Int), s.ps[j]? = some (some (k, r)) → r ≤ n + 1 := fun j k r e => by have := h j k r e; omega
  unfold getT at hr
  split at hr
  · rename_i j _
    rcases getElem?_set_ hr with ⟨rfl, e, _⟩ | ⟨_, e⟩
    · cases e
      have := refsLe_at hn h i
      omega
    · exact h1 _ _ _ e
  · rcases getElem?_set_ hr with ⟨rfl, e, _⟩ | ⟨_, e⟩
    · cases e; omega
    · exact h1 _ _ _ e
  · rcases getElem?_set_ hr with ⟨rfl, e, _⟩ | ⟨_, e⟩
    · cases e; omega
    · exact h1 _ _ _ e
  · exact h1 _ _ _ hr
theorem refsLe_put {n : Int} (hn : 0 ≤ n) (h : refsLe s n) (key : Int) : refsLe (putT s key) n := by
  intro i k r hr
  unfold putT at hr
  split at hr
  · exact h _ _ _ hr
  · split at hr
    · exact h _ _ _ hr
    · rcases getElem?_set_ hr with ⟨rfl, e, _⟩ | ⟨_, e⟩
      · cases e
        have := refsLe_at hn h i
        omega
      · exact h _ _ _ e
theorem refsLe_mono {n m : Int} (h : refsLe s n) (hm : n ≤ m) : refsLe s m := fun i k r e => by have := h i k r e; omega
def newL (n : Nat) : LruS := ⟨List.replicate n none, []⟩
theorem LruOk.new_ (n : Nat) : LruOk (newL n) := by
  have hn : ∀ (i : Nat) (x : Int × Int), (List.replicate n (none : Plc))[i]? ≠ some (some x) := fun i x e => by
    have := List.eq_of_mem_replicate (List.mem_of_getElem? e); cases this
  exact ⟨fun i j k r r' h _ => absurd h (hn i _), fun i k r h => absurd h (hn i _), fun i => ⟨fun h => (by cases h), fun ⟨k, h⟩ => absurd h (hn i _)⟩, List.nodup_nil⟩
theorem refsLe_new (n : Nat) : refsLe (newL n) 0 := fun i k r e => by
  have := List.eq_of_mem_replicate (List.mem_of_getElem? e); cases this
end
end Go.Proofs.Ytiidheknlacioaa
