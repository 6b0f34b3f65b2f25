/- Memory by cells: what a call may have turned (Chg), a slice of many-cell elements that lies in a row (GSl), append onto it; a map from numbers to pointers (PMap). Nothing here is about the program's functions. -/
import Derived.Test.YtdhccjmokmdboaaDoorMem
import Derived.Laws.IdiomCopy
import Derived.Deep.MidRow
import Derived.Maps.OwnSet
import Derived.Maps.OwnOps
namespace Go.Proofs.YtdhccjmokmdboaaDoor
open Go.RowKit

/-! ### what may have turned: the cells of F, and nothing else of what was there -/
structure Chg (F : Nat → Nat → Prop) (w w' : World) : Prop where
  os : w'.os = w.os
  tape : w'.tape = w.tape
  output : w'.output = w.output
  size : w.heap.size ≤ w'.heap.size
  far : ∀ k, k < w.heap.size → (∀ i, ¬ F k i) → w'.heap[k]? = w.heap[k]?
  row : ∀ k cs t fr, w.heap[k]? = some (.cells cs t fr) → ∃ cs' : Array Value, w'.heap[k]? = some (.cells cs' t fr) ∧ cs'.size = cs.size ∧ ∀ i, ¬ F k i → cs'[i]? = cs[i]?
section
variable {F F' : Nat → Nat → Prop} {w w' w'' : World}
theorem Chg.refl (F : Nat → Nat → Prop) (w : World) : Chg F w w := ⟨rfl, rfl, rfl, Nat.le_refl _, fun _ _ _ => rfl, fun _ cs _ _ h => ⟨cs, h, rfl, fun _ _ => rfl⟩⟩
theorem Chg.lt {k : Nat} {o : Obj} (h : w.heap[k]? = some o) : k < w.heap.size := (Array.getElem?_eq_some_iff.1 h).1
theorem Chg.of_below (F : Nat → Nat → Prop) (h : Below w.heap.size w w') : Chg F w w' :=
  ⟨h.os, h.tape, h.output, h.size, fun k hk _ => h.block k hk, fun k cs _ _ hc => ⟨cs, (h.block k (Chg.lt hc)).trans hc, rfl, fun _ _ => rfl⟩⟩
theorem Chg.alloc (F : Nat → Nat → Prop) (w : World) (o : Obj) : Chg F w (w.alloc o) := .of_below F ((Below.refl _ w).alloc (Nat.le_refl _) o)
theorem Chg.mono (h : Chg F w w') (hF : ∀ k i, k < w.heap.size → F k i → F' k i) : Chg F' w w' :=
  ⟨h.os, h.tape, h.output, h.size, fun k hk hn => h.far k hk fun i hf => hn i (hF k i hk hf), fun k cs t fr hc => by
    obtain ⟨cs', h1, h2, h3⟩ := h.row k cs t fr hc
    exact ⟨cs', h1, h2, fun i hn => h3 i fun hf => hn (hF k i (Chg.lt hc) hf)⟩⟩
theorem Chg.trans (h : Chg F w w') (k : Chg F' w' w'') (hF : ∀ k i, k < w.heap.size → F' k i → F k i) : Chg F w w'' :=
  ⟨k.os.trans h.os, k.tape.trans h.tape, k.output.trans h.output, Nat.le_trans h.size k.size,
   fun j hj hn => (k.far j (Nat.lt_of_lt_of_le hj h.size) fun i hf => hn i (hF j i hj hf)).trans (h.far j hj hn), fun j cs t fr hc => by
    obtain ⟨cs', h1, h2, h3⟩ := h.row j cs t fr hc
    obtain ⟨cs2, g1, g2, g3⟩ := k.row j cs' t fr h1
    exact ⟨cs2, g1, g2.trans h2, fun i hn => (g3 i fun hf => hn (hF j i (Chg.lt hc) hf)).trans (h3 i hn)⟩⟩
theorem Chg.drewN (h : Chg F w w') (n : Nat) : Chg F w (w'.drewN n) := ⟨h.os, h.tape, h.output, h.size, h.far, h.row⟩
theorem Chg.drew (h : Chg F w w') : Chg F w w'.drew := h.drewN 1
theorem Chg.setCell (F : Nat → Nat → Prop) (w : World) {g i : Nat} (hF : F g i) (u : Value) : Chg F w (w.setCell ⟨g, i, none⟩ u) := by
  refine ⟨rfl, rfl, rfl, by simp [World.setCell], fun k _ hn => Below.heap_setCell w ⟨g, i, none⟩ u k (fun e => hn i (by rw [e]; exact hF)), fun k cs t fr hc => ?_⟩
  by_cases e : k = g
  · subst e
    refine ⟨cs.setIfInBounds i u, by simp [World.setCell, Array.getElem?_modify, hc], by simp, fun j hn => ?_⟩
    rw [Array.getElem?_setIfInBounds_ne (by rintro rfl; exact hn hF)]
  · exact ⟨cs, (Below.heap_setCell w ⟨g, i, none⟩ u k e).trans hc, rfl, fun _ _ => rfl⟩
theorem Chg.cell (h : Chg F w w') {g i : Nat} (hn : ¬ F g i) {v : Value} (hc : w.cell? ⟨g, i, none⟩ = some v) : w'.cell? ⟨g, i, none⟩ = some v := by
  unfold World.cell? at hc ⊢
  cases ho : w.heap[g]? with
  | none => simp [ho] at hc
  | some o =>
    cases o with
    | cells cs t fr =>
      obtain ⟨cs', h1, h2, h3⟩ := h.row g cs t fr ho
      simp only [ho] at hc
      simp only [h1]
      rw [h3 i hn]
      exact hc
    | _ => simp [ho] at hc
theorem Chg.blk {g t : Nat} {cs : Array Value} (h : Chg F w w') (hb : Blk w g t cs) (hn : ∀ i, ¬ F g i) : Blk w' g t cs := (h.far g hb.lt hn).trans hb
theorem Chg.of_row {g t : Nat} {old cs : Array Value} {F : Nat → Nat → Prop} (hg : w.grownBy w' (some g)) (hb : Blk w g t old) (hb' : Blk w' g t cs) (hs : cs.size = old.size) (hF : ∀ i, F g i) : Chg F w w' :=
  ⟨hg.os, hg.tape, hg.output, hg.size, fun k hk hn => hg.block k hk (by intro e; cases e; exact hn 0 (hF 0)), fun k cs' t' fr hc => by
    by_cases e : k = g
    · subst e
      unfold Blk at hb hb'
      rw [hb] at hc
      cases hc
      exact ⟨cs, hb', hs, fun i hn => absurd (hF i) hn⟩
    · exact ⟨cs', (hg.block k (Chg.lt hc) (by intro e'; cases e'; exact e rfl)).trans hc, rfl, fun _ _ => rfl⟩⟩
/-- what lay below B is as it was -/
theorem Chg.below {B : Nat} (h : Chg F w w') (hB : B ≤ w.heap.size) (hn : ∀ k i, k < B → ¬ F k i) : Below B w w' := ⟨h.os, h.tape, h.output, h.size, fun k hk => h.far k (by omega) fun i => hn k i hk⟩
end

/-! ### a slice of elements of sz cells, which lies in a row -/
def GSl {α : Type} (enc : α → List Value) (sz : Nat) (e : TypeId) (w : World) (A : Option Addr) (c : Nat) (l : List α) : Prop :=
  (A = none ∧ l = [] ∧ c = 0) ∨ ∃ (g o : Nat) (cs : Array Value), A = some ⟨g, o, none⟩ ∧ l.length ≤ c ∧ c ≤ maxLen ∧ w.heap[g]? = some (.cells cs e (0, 0)) ∧ o + c * sz ≤ cs.size ∧
    ∀ (i : Nat) (x : α), l[i]? = some x → ∀ (j : Nat) (v : Value), (enc x)[j]? = some v → cs[o + (i * sz + j)]? = some v
/-- the cells of a slice, from the element k on, spare room too -/
def slFp (sz : Nat) (A : Option Addr) (k c : Nat) : Nat → Nat → Prop := fun g i => ∃ o, A = some ⟨g, o, none⟩ ∧ o + k * sz ≤ i ∧ i < o + c * sz
section
variable {α : Type} {enc : α → List Value} {sz : Nat} {e : TypeId} {F : Nat → Nat → Prop} {w w' : World} {A : Option Addr} {c : Nat} {l : List α}
theorem GSl.nil_ : GSl enc sz e w none 0 [] := .inl ⟨rfl, rfl, rfl⟩
theorem GSl.le (h : GSl enc sz e w A c l) : l.length ≤ c := by
  rcases h with ⟨_, rfl, rfl⟩ | ⟨_, _, _, _, h, _⟩
  · exact Nat.le_refl _
  · exact h
theorem GSl.chg (h : GSl enc sz e w A c l) (hc : Chg F w w') (hsz : ∀ x, (enc x).length = sz) (hn : ∀ g i, slFp sz A 0 l.length g i → ¬ F g i) : GSl enc sz e w' A c l := by
  rcases h with h | ⟨g, o, cs, rfl, h1, h2, h3, h4, h5⟩
  · exact .inl h
  · obtain ⟨cs', g1, g2, g3⟩ := hc.row g cs e (0, 0) h3
    refine .inr ⟨g, o, cs', rfl, h1, h2, g1, by omega, fun i x hx j v hv => ?_⟩
    have hi := (List.getElem?_eq_some_iff.1 hx).1
    have hj := (List.getElem?_eq_some_iff.1 hv).1
    rw [hsz x] at hj
    rw [g3 _ (hn g _ ⟨o, rfl, by omega, by
      have : (i + 1) * sz ≤ l.length * sz := Nat.mul_le_mul_right _ hi
      rw [Nat.add_mul] at this
      omega⟩)]
    exact h5 i x hx j v hv
theorem GSl.cell (h : GSl enc sz e w A c l) {k : Nat} {x : α} (hx : l[k]? = some x) : ∃ g o, A = some ⟨g, o, none⟩ ∧ g < w.heap.size ∧ ∀ j v, (enc x)[j]? = some v → w.cell? ⟨g, o + (k * sz + j), none⟩ = some v ∧ w.frozen? ⟨g, o + (k * sz + j), none⟩ = false := by
  rcases h with ⟨_, rfl, _⟩ | ⟨g, o, cs, rfl, h1, h2, h3, h4, h5⟩
  · simp at hx
  · exact ⟨g, o, rfl, Chg.lt h3, fun j v hv => ⟨(cell_of_row w g _ cs e (0, 0) h3).trans (h5 k x hx j v hv), by simp [World.frozen?, h3]⟩⟩
theorem GSl.take (h : GSl enc sz e w A c l) (k : Nat) (hk : k ≤ l.length) : GSl enc sz e w A k (l.take k) := by
  rcases h with ⟨rfl, rfl, rfl⟩ | ⟨g, o, cs, rfl, h1, h2, h3, h4, h5⟩
  · obtain rfl : k = 0 := by simpa using hk
    exact .inl ⟨rfl, rfl, rfl⟩
  · refine .inr ⟨g, o, cs, rfl, by simp; omega, by omega, h3, ?_, fun i x hx => h5 i x ?_⟩
    · have : k * sz ≤ c * sz := Nat.mul_le_mul_right _ (by omega)
      omega
    · rw [List.getElem?_take] at hx
      split at hx
      · exact hx
      · cases hx
theorem GSl.drop (h : GSl enc sz e w A c l) (k : Nat) (hk : k ≤ l.length) : GSl enc sz e w (if c = k then A else A.map (·.add (k * sz))) (c - k) (l.drop k) := by
  have hle := h.le
  rcases h with ⟨rfl, rfl, rfl⟩ | ⟨g, o, cs, rfl, h1, h2, h3, h4, h5⟩
  · obtain rfl : k = 0 := by simpa using hk
    exact .inl ⟨rfl, by simp, rfl⟩
  · by_cases e : c = k
    · rw [if_pos e]
      refine .inr ⟨g, o, cs, rfl, by simp; omega, by omega, h3, by rw [show c - k = 0 from by omega]; omega, fun i x hx => ?_⟩
      rw [List.getElem?_drop] at hx
      have := (List.getElem?_eq_some_iff.1 hx).1
      omega
    · rw [if_neg e]
      refine .inr ⟨g, o + k * sz, cs, by simp [add_lit_], by simp; omega, by omega, h3, ?_, fun i x hx j v hv => ?_⟩
      · rw [Nat.sub_mul]
        have : k * sz ≤ c * sz := Nat.mul_le_mul_right _ (by omega)
        omega
      · rw [List.getElem?_drop] at hx
        have := h5 _ x hx j v hv
        rwa [Nat.add_mul, show o + (k * sz + i * sz + j) = o + k * sz + (i * sz + j) from by omega] at this
end

theorem slFp_zero {sz : Nat} {A : Option Addr} {k c g i : Nat} (h : slFp sz A k c g i) : slFp sz A 0 c g i := by
  obtain ⟨o, h1, h2, h3⟩ := h
  exact ⟨o, h1, by omega, h3⟩

/-! ### cells that are stored one behind the other -/
theorem setCells_row : ∀ (vs : List Value) (o : Nat) (w : World) (g : Nat) (cs : Array Value) (t : TypeId) (fr : Nat × Nat), w.heap[g]? = some (.cells cs t fr) →
    ∃ cs' : Array Value, (w.setCells g o vs).heap[g]? = some (.cells cs' t fr) ∧ cs'.size = cs.size ∧ (∀ i, (i < o ∨ o + vs.length ≤ i) → cs'[i]? = cs[i]?) ∧ (o + vs.length ≤ cs.size → ∀ j v, vs[j]? = some v → cs'[o + j]? = some v)
  | [], o, w, g, cs, t, fr, h => ⟨cs, h, rfl, fun _ _ => rfl, fun _ j v hv => by simp at hv⟩
  | u :: vs, o, w, g, cs, t, fr, h => by
    obtain ⟨cs', h1, h2, h3, h4⟩ := setCells_row vs (o + 1) (w.setCell ⟨g, o, none⟩ u) g (cs.setIfInBounds o u) t fr (by simp [World.setCell, Array.getElem?_modify, h])
    refine ⟨cs', h1, by simpa using h2, fun i hi => ?_, fun hle j v hv => ?_⟩
    · simp only [List.length_cons] at hi
      rw [h3 i (by omega), Array.getElem?_setIfInBounds_ne (by omega)]
    · simp only [List.length_cons] at hle
      cases j with
      | zero =>
        cases hv
        rw [h3 (o + 0) (by omega), Nat.add_zero, Array.getElem?_setIfInBounds_self_of_lt (by omega)]
      | succ j =>
        rw [show o + (j + 1) = o + 1 + j from by omega]
        exact h4 (by rw [Array.size_setIfInBounds]; omega) j v (by simpa using hv)
theorem setCells_size : ∀ (vs : List Value) (o : Nat) (w : World) (g : Nat), (w.setCells g o vs).heap.size = w.heap.size
  | [], _, _, _ => rfl
  | u :: vs, o, w, g => (setCells_size vs (o + 1) _ g).trans (by simp [World.setCell])
theorem setCells_chg (F : Nat → Nat → Prop) : ∀ (vs : List Value) (o : Nat) (w : World) (g : Nat), (∀ i, o ≤ i → i < o + vs.length → F g i) → Chg F w (w.setCells g o vs)
  | [], _, w, _, _ => Chg.refl F w
  | u :: vs, o, w, g, h => (Chg.setCell F w (h o (Nat.le_refl _) (by simp)) u).trans (setCells_chg F vs (o + 1) _ g fun i h1 h2 => h i (by omega) (by simp; omega)) fun _ _ _ h => h
section
variable {P : Program}
theorem run_append_mid {w : World} (t ty e : TypeId) (i : TypeInfo) (ht : P.underlying t = some (.slice e)) (hi : P.info? e = some i)
    (g o sLen sCap : Nat) (cur : Array Value) (hg : w.heap[g]? = some (.cells cur e (0, 0)))
    (a : Addr) (m c : Nat) (news : List Value) (hl : news.length = m * i.size) (hnews : ∀ j u, news[j]? = some u → w.cell? (a.add j) = some u) (h1 : ∀ u ∈ news, u.oneCell' = true)
    (hroom : sLen + m ≤ sCap) (hfit : o + sLen * i.size + news.length ≤ cur.size) :
    (Builtin.append_ #[t, t] ty #[.slice (some ⟨g, o, none⟩) sLen sCap, .slice (some a) m c]).run P w =
      .ok (.slice (some ⟨g, o, none⟩) (sLen + m) sCap) (w.setCells g (o + sLen * i.size) news) := by
  have hf := run_firstCells_some (P := P) w i.size m a m c news hl hnews
  have hst := run_storeCells_cells (P := P) g (o + sLen * i.size) news 0 w (fun j hj => by
    rw [cell_of_row w g _ cur e (0, 0) hg, Nat.add_zero, Array.getElem?_eq_getElem (by omega)]; rfl) (fun j hj => by simp [World.frozen?, hg]) h1
  simp only [Nat.add_zero] at hst
  simp [Builtin.append_, run_underlying ht, sizeOf, typeInfo, hi, Builtin.lenOf, hroom, hf, add_lit_, hst]
end
section
variable {α : Type} {enc : α → List Value} {sz : Nat}
theorem flat_len (hsz : ∀ x, (enc x).length = sz) (l : List α) : (l.flatMap enc).length = l.length * sz := by
  induction l with
  | nil => simp
  | cons x l ih => rw [List.flatMap_cons, List.length_append, hsz, ih, List.length_cons, Nat.add_mul]; omega
theorem flat_at (hsz : ∀ x, (enc x).length = sz) : ∀ {l : List α} {i : Nat} {x : α}, l[i]? = some x → ∀ j, j < sz → (l.flatMap enc)[i * sz + j]? = (enc x)[j]?
  | [], i, x, h, _, _ => by simp at h
  | y :: l, 0, x, h, j, hj => by
    cases h
    rw [List.flatMap_cons, List.getElem?_append_left (by rw [hsz]; omega)]
    simp
  | y :: l, i + 1, x, h, j, hj => by
    rw [List.flatMap_cons, List.getElem?_append_right (by rw [hsz, Nat.add_mul]; omega), hsz, show (i + 1) * sz + j - sz = i * sz + j from by rw [Nat.add_mul]; omega]
    exact flat_at hsz (by simpa using h) j hj
/-- a list's cells, one behind the other, where the slice's elements are read -/
theorem RdS.flat {w : World} {A : Option Addr} {l : List α} (h : RdS enc sz w A l) (hsz : ∀ x, (enc x).length = sz) (h0 : 0 < sz) {b : Addr} (hb : A = some b) : ∀ j u, (l.flatMap enc)[j]? = some u → w.cell? (b.add j) = some u := fun j u hu => by
  have hj := (List.getElem?_eq_some_iff.1 hu).1
  rw [flat_len hsz] at hj
  have hd := Nat.div_add_mod j sz
  have hm := Nat.mod_lt j h0
  have hq : j / sz < l.length := Nat.div_lt_of_lt_mul (by rwa [Nat.mul_comm] at hj)
  have hx : l[j / sz]? = some l[j / sz] := List.getElem?_eq_getElem hq
  obtain ⟨g, o, e, _, hc⟩ := h _ _ hx
  rw [hb] at e
  cases e
  rw [add_lit_, ← hd, Nat.mul_comm]
  refine hc _ _ ?_
  rw [← flat_at hsz hx _ hm, Nat.mul_comm, hd]
  exact hu
theorem GSl.rds {e : TypeId} {w : World} {A : Option Addr} {c : Nat} {l : List α} (h : GSl enc sz e w A c l) : RdS enc sz w A l := fun i x hx => by
  obtain ⟨g, o, rfl, hg, hc⟩ := h.cell hx
  exact ⟨g, o, rfl, hg, fun j v hv => (hc j v hv).1⟩
theorem RdS.nil_of {w : World} {l : List α} (h : RdS enc sz w none l) : l = [] := by
  cases l with
  | nil => rfl
  | cons x l => obtain ⟨_, _, h, _⟩ := h 0 x rfl; cases h
end
section
variable {P : Program} {α : Type} {enc : α → List Value} {sz bytes : Nat} {t e : TypeId} {w : World}
/-- append: the slice reads as both lists; it has turned its own room, or lies in a new row -/
theorem run_appendG (T : SlTy P t e sz bytes) (h0 : 0 < sz) (hsz : ∀ x, (enc x).length = sz) (h1 : ∀ x, ∀ v ∈ enc x, v.oneCell' = true) (ty : TypeId) {A : Option Addr} {c : Nat} {l : List α} (h : GSl enc sz e w A c l)
    {B : Option Addr} (cB : Nat) {m : List α} (hm : RdS enc sz w B m) (h63 : l.length + m.length ≤ maxLen) (hbytes : (l.length + m.length) * bytes ≤ 140737488355328) :
    ∃ A' c' w', (Builtin.append_ #[t, t] ty #[.slice A l.length c, .slice B m.length cB]).run P w = .ok (.slice A' (l ++ m).length c') w' ∧ GSl enc sz e w' A' c' (l ++ m) ∧ Chg (slFp sz A l.length c) w w' ∧
      ((A' = A ∧ c' = c) ∨ ∃ g, A' = some ⟨g, 0, none⟩ ∧ w.heap.size ≤ g) := by
  obtain ⟨i, z, hi, hz, hs, hby, hzs⟩ := T.ex
  subst hs
  subst hby
  have hlen : (l ++ m).length = l.length + m.length := List.length_append
  have hfl := flat_len hsz l
  have hfm := flat_len hsz m
  have hone : ∀ u ∈ m.flatMap enc, u.oneCell' = true := fun u hu => by
    obtain ⟨x, _, hx⟩ := List.mem_flatMap.1 hu
    exact h1 x u hx
  have hsmall : l.length + m.length ≤ 9223372036854775807 := by simpa only [maxLen] using h63
  -- a new row
  have grown : ∀ (old : Nat), GSl enc i.size e (w.drew.alloc (.cells ((l.flatMap enc).toArray ++ (m.flatMap enc).toArray ++ Builtin.zeroCells z.cells (grownCap w (l.length + m.length) old e - (l.length + m.length))) e)) (some ⟨w.heap.size, 0, none⟩) (grownCap w (l.length + m.length) old e) (l ++ m) := by
    intro old
    have hge := grownCap_ge w (l.length + m.length) old e
    have hcm : grownCap w (l.length + m.length) old e ≤ maxLen := grownCap_le_maxLen w (l.length + m.length) old e h63
    refine .inr ⟨_, _, _, rfl, by rw [hlen]; exact hge, hcm, heap_alloc_new w.drew _, ?_, fun k x hx j v hv => ?_⟩
    · simp only [Array.size_append, List.size_toArray, size_zeroCells, hzs, hfl, hfm, ← Nat.add_mul]
      rw [Nat.zero_add]
      exact Nat.mul_le_mul_right _ (by omega)
    · have hj := (List.getElem?_eq_some_iff.1 hv).1
      rw [hsz] at hj
      have hk := (List.getElem?_eq_some_iff.1 hx).1
      have h2 := flat_at hsz hx j hj
      rw [hv, List.flatMap_append] at h2
      have h3 := (List.getElem?_eq_some_iff.1 h2).1
      rw [Nat.zero_add, Array.getElem?_append_left (by simpa using h3), List.append_toArray]
      simpa using h2
  have fresh : ∀ o : Obj, Chg (slFp i.size A l.length c) w (w.drew.alloc o) := fun o => ((Chg.refl _ w).drew).trans (Chg.alloc _ _ _) fun _ _ _ h => h
  rcases h with ⟨rfl, rfl, rfl⟩ | ⟨g, o, cs, rfl, k1, k2, k3, k4, k5⟩
  · rcases Nat.eq_zero_or_pos m.length with hm0 | hm0
    · obtain rfl := List.eq_nil_of_length_eq_zero hm0
      refine ⟨none, 0, w, ?_, GSl.nil_, Chg.refl _ w, .inl ⟨rfl, rfl⟩⟩
      rcases B with _ | b
      · simp [Builtin.append_, run_underlying T.und, sizeOf, typeInfo, hi, Builtin.lenOf, Builtin.firstCells]
      · simp [Builtin.append_, run_underlying T.und, sizeOf, typeInfo, hi, Builtin.lenOf, Builtin.firstCells, loadCells, loadCellsFrom]
    · rcases B with _ | b
      · rw [hm.nil_of] at hm0; simp at hm0
      · have hr := run_append_nil (P := P) w t ty e i z T.und hi hz b m.length cB (m.flatMap enc) hfm (hm.flat hsz h0 rfl) hm0 (by simp only [List.length_nil] at hsmall; omega) (by have hb := hbytes; simp only [List.length_nil, Nat.zero_add] at hb; omega)
        have hg := grown 0
        simp only [List.length_nil, Nat.zero_add, List.flatMap_nil, Array.empty_append, List.nil_append] at hg ⊢
        exact ⟨_, _, _, hr, hg, fresh _, .inr ⟨_, rfl, Nat.le_refl _⟩⟩
  · by_cases hroom : l.length + m.length ≤ c
    · have hfit : o + l.length * i.size + (m.flatMap enc).length ≤ cs.size := by
        have : (l.length + m.length) * i.size ≤ c * i.size := Nat.mul_le_mul_right _ hroom
        rw [Nat.add_mul] at this
        omega
      rcases B with _ | b
      · obtain rfl := hm.nil_of
        refine ⟨_, _, w, ?_, by simpa using .inr ⟨g, o, cs, rfl, k1, k2, k3, k4, k5⟩, Chg.refl _ w, .inl ⟨rfl, rfl⟩⟩
        simp [Builtin.append_, run_underlying T.und, sizeOf, typeInfo, hi, Builtin.lenOf, Builtin.firstCells, k1, storeCells]
      · have hr := run_append_mid (P := P) t ty e i T.und hi g o l.length c cs k3 b m.length cB (m.flatMap enc) hfm (hm.flat hsz h0 rfl) hone hroom hfit
        obtain ⟨cs', r1, r2, r3, r4⟩ := setCells_row (m.flatMap enc) (o + l.length * i.size) w g cs e (0, 0) k3
        refine ⟨_, _, _, by rw [hlen]; exact hr, .inr ⟨g, o, cs', rfl, by rw [hlen]; exact hroom, k2, r1, by omega, fun k x hx j v hv => ?_⟩, setCells_chg _ _ _ _ _ fun k hk1 hk2 => ⟨o, rfl, hk1, ?_⟩, .inl ⟨rfl, rfl⟩⟩
        · have hj := (List.getElem?_eq_some_iff.1 hv).1
          rw [hsz] at hj
          rcases Nat.lt_or_ge k l.length with hk | hk
          · rw [List.getElem?_append_left hk] at hx
            rw [r3 _ (.inl (by
              have : (k + 1) * i.size ≤ l.length * i.size := Nat.mul_le_mul_right _ hk
              rw [Nat.add_mul] at this
              omega))]
            exact k5 k x hx j v hv
          · rw [List.getElem?_append_right hk] at hx
            have h2 := flat_at hsz hx j hj
            rw [hv] at h2
            have := r4 hfit _ _ h2
            rwa [show o + l.length * i.size + ((k - l.length) * i.size + j) = o + (k * i.size + j) from by
              rw [Nat.sub_mul]
              have : l.length * i.size ≤ k * i.size := Nat.mul_le_mul_right _ hk
              omega] at this
        · have : (l.length + m.length) * i.size ≤ c * i.size := Nat.mul_le_mul_right _ hroom
          rw [Nat.add_mul] at this
          omega
    · rcases B with _ | b
      · rw [hm.nil_of] at hroom
        exact absurd k1 (by simpa using hroom)
      · have hold : RdS enc i.size w (some ⟨g, o, none⟩) l := GSl.rds (e := e) (.inr ⟨g, o, cs, rfl, k1, k2, k3, k4, k5⟩)
        have hr := run_append_grow (P := P) w t ty e i z T.und hi hz ⟨g, o, none⟩ l.length c (l.flatMap enc) hfl (hold.flat hsz h0 rfl) b m.length cB (m.flatMap enc) hfm (hm.flat hsz h0 rfl) (by omega) (by omega) (growslice_fits (by omega) hbytes)
        exact ⟨_, _, _, by rw [hlen]; exact hr, grown c, fresh _, .inr ⟨_, rfl, Nat.le_refl _⟩⟩
theorem wp_appendG (T : SlTy P t e sz bytes) (h0 : 0 < sz) (hsz : ∀ x, (enc x).length = sz) (h1 : ∀ x, ∀ v ∈ enc x, v.oneCell' = true) {o : Oper} {a : Act} {K : Act → World → Prop} {Q : Exit → Act → World → Prop} (s x : Operand)
    (ho : o.op = .call { callee := .builtin .append, args := #[s, x], argTypes := #[t, t] }) (A : Option Addr) (c : Nat) (l : List α) (hs : a.eval s = .slice A l.length c) (h : GSl enc sz e w A c l)
    (B : Option Addr) (cB : Nat) (m : List α) (hx : a.eval x = .slice B m.length cB) (hm : RdS enc sz w B m) (h63 : l.length + m.length ≤ maxLen) (hbytes : (l.length + m.length) * bytes ≤ 140737488355328)
    (hK : ∀ A' c' w', GSl enc sz e w' A' c' (l ++ m) → Chg (slFp sz A l.length c) w w' → ((A' = A ∧ c' = c) ∨ ∃ g, A' = some ⟨g, 0, none⟩ ∧ w.heap.size ≤ g) → K (a.put o.dst (.slice A' (l ++ m).length c')) w') : o.wp P a w K Q := by
  obtain ⟨A', c', w', hrun, g1, g2, g3⟩ := run_appendG (P := P) T h0 hsz h1 o.type h cB hm h63 hbytes
  unfold Oper.wp execOp
  simp only [ho, resolve, invoke, builtin, Sem.run_bind, Sem.run_pure, Result.andThen_ok, List.map_toArray, List.map_cons, List.map_nil, hs, hx, hrun]
  exact hK A' c' w' g1 g2 g3
theorem wpList_appendG (T : SlTy P t e sz bytes) (h0 : 0 < sz) (hsz : ∀ x, (enc x).length = sz) (h1 : ∀ x, ∀ v ∈ enc x, v.oneCell' = true) {ops : Array Oper} {rest : List Oper} {o : Oper} {a : Act} {Q : Exit → Act → World → Prop} (hgd : o.guard = none) (s x : Operand)
    (ho : o.op = .call { callee := .builtin .append, args := #[s, x], argTypes := #[t, t] }) (A : Option Addr) (c : Nat) (l : List α) (hs : a.eval s = .slice A l.length c) (h : GSl enc sz e w A c l)
    (B : Option Addr) (cB : Nat) (m : List α) (hx : a.eval x = .slice B m.length cB) (hm : RdS enc sz w B m) (h63 : l.length + m.length ≤ maxLen) (hbytes : (l.length + m.length) * bytes ≤ 140737488355328)
    (hK : ∀ A' c' w', GSl enc sz e w' A' c' (l ++ m) → Chg (slFp sz A l.length c) w w' → ((A' = A ∧ c' = c) ∨ ∃ g, A' = some ⟨g, 0, none⟩ ∧ w.heap.size ≤ g) → wpList P ops Q rest (a.put o.dst (.slice A' (l ++ m).length c')) w') : wpList P ops Q (o :: rest) a w :=
  wpList_plain hgd fun _ hk => wp_appendG T h0 hsz h1 s x ho A c l hs h B cB m hx hm h63 hbytes fun A' c' w' g1 g2 g3 => hk _ _ (hK A' c' w' g1 g2 g3)
theorem step_appendG (T : SlTy P t e sz bytes) (h0 : 0 < sz) (hsz : ∀ x, (enc x).length = sz) (h1 : ∀ x, ∀ v ∈ enc x, v.oneCell' = true) {ops : Array Oper} {o : Oper} {a : Act} {K : Act → World → Prop} {Q : Exit → Act → World → Prop} {E : Prop} (hgd : o.guard = none) (s x : Operand)
    (ho : o.op = .call { callee := .builtin .append, args := #[s, x], argTypes := #[t, t] }) (A : Option Addr) (c : Nat) (l : List α) (hs : a.eval s = .slice A l.length c) (h : GSl enc sz e w A c l)
    (B : Option Addr) (cB : Nat) (m : List α) (hx : a.eval x = .slice B m.length cB) (hm : RdS enc sz w B m) (h63 : l.length + m.length ≤ maxLen) (hbytes : (l.length + m.length) * bytes ≤ 140737488355328)
    (hK : ∀ A' c' w', GSl enc sz e w' A' c' (l ++ m) → Chg (slFp sz A l.length c) w w' → ((A' = A ∧ c' = c) ∨ ∃ g, A' = some ⟨g, 0, none⟩ ∧ w.heap.size ≤ g) → K (a.put o.dst (.slice A' (l ++ m).length c')) w') :
    if Region.wanted o (yielded ops a.tmps) = true then Oper.wp P o a w K Q else E := by
  rw [if_pos (by simp [Region.wanted, hgd])]
  exact wp_appendG T h0 hsz h1 s x ho A c l hs h B cB m hx hm h63 hbytes hK
end
/-- new rows: a list of one element, written out -/
theorem RdS.new1 {α : Type} (enc : α → List Value) (sz : Nat) (w : World) (t : TypeId) (x : α) : RdS enc sz (w.alloc (.cells (enc x).toArray t)) (some ⟨w.heap.size, 0, none⟩) [x] := fun i y hy => by
  have hi := (List.getElem?_eq_some_iff.1 hy).1
  obtain rfl : i = 0 := by simpa using hi
  cases hy
  refine ⟨_, _, rfl, by simp, fun j v hv => ?_⟩
  rw [World.cell?_alloc_new]
  simpa using hv

/-! ### a map from numbers to pointers -/
/-- how a pointer is told in the map's datum -/
def ptrR (v : Value) : Option (DataW Unit × List MemPlace) :=
  match v with
  | .pointer none => some (.lit (.int .i64 (-1)), [])
  | .pointer (some ⟨g, 0, none⟩) => some (.lit (.int .i64 g), [])
  | _ => none
def ptrV : Option Nat → Value
  | none => .pointer none
  | some g => .pointer (some ⟨g, 0, none⟩)
def ptrC : Option Nat → Int
  | none => -1
  | some g => g
theorem ptrR_mk (p : Option Nat) : ptrR (ptrV p) = some (.lit (.int .i64 (ptrC p)), []) := by cases p <;> rfl
theorem ptrR_inv {v : Value} {p : Option Nat} {ps : List MemPlace} (h : ptrR v = some (.lit (.int .i64 (ptrC p)), ps)) : v = ptrV p := by
  unfold ptrR at h
  split at h
  · cases p with
    | none => rfl
    | some g => simp [ptrC] at h
  · rename_i g
    cases p with
    | none => simp [ptrC] at h
    | some g' =>
      simp [ptrC] at h
      obtain ⟨h, _⟩ := h
      have : g = g' := by omega
      rw [this]; rfl
  · cases h
/-- block b is a map of at most n keys, in which f tells the pointer of each number -/
def PMap (P : Program) (k : TypeId) (w : World) (b n : Nat) (f : Int → Option Nat) : Prop :=
  ∃ D : DataW Unit, w.ownsMap P k ptrR b n D ∧ (∀ id, (Lit.int .i64 id).wf = true → D.atKey (.int .i64 id) (.lit (.int .i64 (-1))) = .lit (.int .i64 (ptrC (f id)))) ∧ ∀ id, (Lit.int .i64 id).wf = true → Maps.has D (.int .i64 id) = true → f id ≠ none
def setP (f : Int → Option Nat) (id : Int) (p : Option Nat) : Int → Option Nat := fun x => if x = id then p else f x
section
variable {P : Program} {k t e : TypeId} {w w' : World} {b n : Nat} {f : Int → Option Nat}
theorem PMap.lt (h : PMap P k w b n f) : b < w.heap.size := by obtain ⟨D, h, _⟩ := h; exact h.lt
theorem PMap.mono (h : PMap P k w b n f) {n' : Nat} (hn : n ≤ n') : PMap P k w b n' f := by obtain ⟨D, h, h2⟩ := h; exact ⟨D, h.mono hn, h2⟩
theorem PMap.made (w : World) (P : Program) (k : TypeId) : PMap P k (w.alloc (.map #[] 0)) w.heap.size 0 (fun _ => none) := ⟨_, World.ownsMap_made w P k ptrR, fun _ _ => rfl, fun _ _ h => by cases h⟩
theorem PMap.keep (h : PMap P k w b n f) (hk : w'.heap[b]? = w.heap[b]?) : PMap P k w' b n f := by
  obtain ⟨D, ⟨es, clock, h1, h2⟩, h3⟩ := h
  exact ⟨D, ⟨es, clock, hk.trans h1, h2⟩, h3⟩
theorem PMap.chg {F : Nat → Nat → Prop} (h : PMap P k w b n f) (hc : Chg F w w') (hn : ∀ i, ¬ F b i) : PMap P k w' b n f := h.keep (hc.far b h.lt hn)
theorem Chg.of_map {F : Nat → Nat → Prop} (h : PMap P k w b n f) (hg : w.grownBy w' (some b)) (hF : F b 0) : Chg F w w' :=
  ⟨hg.os, hg.tape, hg.output, hg.size, fun j hj hn => hg.block j hj (by intro e; cases e; exact hn 0 hF), fun j cs t fr hc => by
    refine ⟨cs, (hg.block j (Chg.lt hc) ?_).trans hc, rfl, fun _ _ => rfl⟩
    intro e
    cases e
    obtain ⟨D, ⟨es, clock, h1, _⟩, _⟩ := h
    rw [h1] at hc
    cases hc⟩
theorem isKey_i64 (id : Int) : WideAt.IsKeyLit (.int .i64 id) := by first | exact trivial | simp [WideAt.IsKeyLit]
theorem PMap.look (h : PMap P k w b n f) (hk : P.underlying k = some (.int .i64)) (ht : P.underlying t = some (.map k e)) (hz : (zeroValue e).run P w = .ok (.pointer none) w) {id : Int} (hw : (Lit.int .i64 id).wf = true) :
    (Instr.lookup t (.map (some b)) (.int .i64 id) false).run P w = .ok (ptrV (f id)) w := by
  obtain ⟨D, h1, h2, _⟩ := h
  obtain ⟨v, ps, hr, hv⟩ := h1.lookup (Maps.int_keyed hk) ht hz (ptrR_mk none) (Maps.keyOf_int_mk hk hw)
  rw [show ptrC none = -1 from rfl, h2 id hw] at hv
  rw [hr, ptrR_inv hv]
theorem PMap.put (h : PMap P k w b n f) (hk : P.underlying k = some (.int .i64)) (ht : P.underlying t = some (.map k e)) (hn : n < maxLen) {id : Int} (hw : (Lit.int .i64 id).wf = true) (p : Option Nat) (hp : p ≠ none) :
    ∃ w', (Instr.mapUpdate t (.map (some b)) (.int .i64 id) (ptrV p)).run P w = .ok () w' ∧ PMap P k w' b (n + 1) (setP f id p) ∧ w.grownBy w' (some b) := by
  obtain ⟨D, h1, h2, h5⟩ := h
  obtain ⟨w', hr, h3, h4⟩ := h1.update (Maps.int_keyed hk) ht hn (Maps.keyOf_int_mk hk hw) (ptrR_mk p)
  refine ⟨w', hr, ⟨_, h3, fun id' hw' => ?_, fun id' hw' hh => ?_⟩, h4⟩
  · unfold setP
    split
    · rename_i e
      subst e
      exact Maps.atKey_put_same (h1.isMap) (isKey_i64 _) _ _
    · rename_i e
      rw [Maps.atKey_put_other (by intro h; cases h; exact e rfl)]
      exact h2 id' hw'
  · unfold setP
    split
    · exact hp
    · rename_i e
      rw [Maps.has_put_other (by intro h; cases h; exact e rfl)] at hh
      exact h5 id' hw' hh
theorem PMap.del (h : PMap P k w b n f) (hk : P.underlying k = some (.int .i64)) (ht : P.underlying t = some (.map k e)) {id : Int} (hw : (Lit.int .i64 id).wf = true) (ty : TypeId) :
    ∃ w', (Builtin.delete_ #[t, k] ty #[.map (some b), .int .i64 id]).run P w = .ok (.tuple #[]) w' ∧ PMap P k w' b n (setP f id none) ∧ w.grownBy w' (some b) := by
  obtain ⟨D, h1, h2, h5⟩ := h
  obtain ⟨w', hr, h3, h4⟩ := h1.drop (Maps.int_keyed hk) ht (Maps.keyOf_int_mk hk hw) ty
  refine ⟨w', hr, ⟨_, h3, fun id' hw' => ?_, fun id' hw' hh => ?_⟩, h4.grown⟩
  · unfold setP
    split
    · rename_i e
      subst e
      exact Maps.atKey_del_same _
    · rename_i e
      rw [Maps.atKey_del_other (by intro h; cases h; exact e rfl)]
      exact h2 id' hw'
  · unfold setP
    split
    · rename_i e
      subst e
      rw [Maps.has_del_same] at hh
      cases hh
    · rename_i e
      rw [Maps.has_del_other (by intro h; cases h; exact e rfl)] at hh
      exact h5 id' hw' hh
theorem wpList_delP {ops : Array Oper} {rest : List Oper} {o : Oper} {a : Act} {Q : Exit → Act → World → Prop} (hg : o.guard = none) (m x : Operand) (hop : o.op = Op.call { callee := Callee.builtin Builtin.delete, args := #[m, x], argTypes := #[t, k] })
    (hk : P.underlying k = some (.int .i64)) (ht : P.underlying t = some (.map k e)) (hm : a.eval m = .map (some b)) (h : PMap P k w b n f) (id : Int) (hx : a.eval x = .int .i64 id) (hw : (Lit.int .i64 id).wf = true)
    (hK : ∀ w', PMap P k w' b n (setP f id none) → w.grownBy w' (some b) → wpList P ops Q rest (a.put o.dst (.tuple #[])) w') : wpList P ops Q (o :: rest) a w := by
  refine wpList_plain hg fun K' hK' => ?_
  obtain ⟨w', hrun, r1, r2⟩ := h.del hk ht hw o.type
  unfold Oper.wp
  simp [execOp, hop, resolve, invoke, builtin, hm, hx, hrun, Result.andThen]
  exact hK' _ _ (hK w' r1 r2)
end
end Go.Proofs.YtdhccjmokmdboaaDoor
