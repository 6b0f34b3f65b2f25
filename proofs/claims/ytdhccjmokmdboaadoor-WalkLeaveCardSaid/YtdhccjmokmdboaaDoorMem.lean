/- Words for memory: a slice of one-cell elements that reads as a list (Rd), one that the call owns (Own), a block known whole (Blk); append onto an owned slice; machine words as UInt8, UInt32, UInt64. Nothing here is about the program. -/
import Derived.Below
import Derived.Laws.OwnMore
import Derived.Deep.Draws
import Derived.Maps.AppendAt
import Derived.Deep.AppendLies
import Derived.RegionTactic
import Derived.OwnWalk
import Derived.Laws.Rows
import Derived.Laws.BitsAllLaws
namespace Go.Proofs.YtdhccjmokmdboaaDoor
open Go.RowKit

/-! ### addresses -/
theorem blk_add (a : Addr) (n : Nat) : (a.add n).block = a.block := by unfold Addr.add; split <;> rfl
theorem add_add_ (a : Addr) (i j : Nat) : (a.add i).add j = a.add (i + j) := by
  unfold Addr.add
  by_cases hi : i = 0 <;> by_cases hj : j = 0 <;> simp [hi, hj, Nat.add_assoc]
theorem add_zero_ (a : Addr) : a.add 0 = a := by unfold Addr.add; simp
theorem add_lit_ (g i j : Nat) : (⟨g, i, none⟩ : Addr).add j = ⟨g, i + j, none⟩ := by unfold Addr.add; split <;> simp_all

/-! ### a block that is known whole -/
def Blk (w : World) (g : Nat) (t : TypeId) (cs : Array Value) : Prop := w.heap[g]? = some (.cells cs t (0, 0))
section
variable {w w' : World} {g : Nat} {t : TypeId} {cs : Array Value}
theorem Blk.lt (h : Blk w g t cs) : g < w.heap.size := (Array.getElem?_eq_some_iff.1 h).1
theorem Blk.cell (h : Blk w g t cs) (i : Nat) : w.cell? ⟨g, i, none⟩ = cs[i]? := cell_of_row w g i cs t (0, 0) h
theorem Blk.frozen (h : Blk w g t cs) (i : Nat) : w.frozen? ⟨g, i, none⟩ = false := by
  unfold Blk at h
  simp [World.frozen?, h]
theorem Blk.new (w : World) (t : TypeId) (cs : Array Value) : Blk (w.alloc (.cells cs t)) w.heap.size t cs := heap_alloc_new w _
theorem Blk.drew (h : Blk w g t cs) : Blk w.drew g t cs := h
theorem Blk.drewN (h : Blk w g t cs) (n : Nat) : Blk (w.drewN n) g t cs := h
theorem Blk.alloc (h : Blk w g t cs) (o : Obj) : Blk (w.alloc o) g t cs := (Below.heap_alloc w o g h.lt).trans h
theorem Blk.set_ (h : Blk w g t cs) (i : Nat) (u : Value) : Blk (w.setCell ⟨g, i, none⟩ u) g t (cs.setIfInBounds i u) := by
  unfold Blk at h ⊢
  simp [World.setCell, Array.getElem?_modify, h]
theorem Blk.far (h : Blk w g t cs) {p : Addr} (hp : g ≠ p.block) (u : Value) : Blk (w.setCell p u) g t cs := (Below.heap_setCell w p u g hp).trans h
theorem Blk.below {B : Nat} (h : Blk w g t cs) (hb : Below B w w') (hg : g < B) : Blk w' g t cs := (hb.block g hg).trans h
theorem Blk.grown {row : Option Nat} (h : Blk w g t cs) (hb : w.grownBy w' row) (hg : some g ≠ row) : Blk w' g t cs := (hb.block g h.lt hg).trans h
theorem Blk.ne_ {g' : Nat} {t' : TypeId} {cs' : Array Value} (h : Blk w g t cs) (h' : Blk w g' t' cs') (hne : t ≠ t') : g ≠ g' := by
  rintro rfl
  unfold Blk at h h'
  rw [h] at h'
  injection h' with h'
  injection h' with _ ht
  exact hne ht
end

/-! ### a slice that reads as a list -/
def Rd {α : Type} (enc : α → Value) (w : World) (A : Option Addr) (l : List α) : Prop := ∀ i x, l[i]? = some x → ∃ ad, A = some ad ∧ w.cell? (ad.add i) = some (enc x)
section
variable {α : Type} {enc : α → Value} {w w' : World} {A : Option Addr} {l : List α}
theorem Rd.nil_ : Rd enc w A [] := fun i x h => by simp at h
theorem Rd.at_ (h : Rd enc w A l) {k : Nat} (hk : k < l.length) : ∃ ad x, A = some ad ∧ l[k]? = some x ∧ w.cell? (ad.add k) = some (enc x) := by
  obtain ⟨ad, e, hc⟩ := h k l[k] (List.getElem?_eq_getElem hk)
  exact ⟨ad, l[k], e, List.getElem?_eq_getElem hk, hc⟩
theorem Rd.keep (h : Rd enc w A l) (hk : ∀ ad, A = some ad → ad.block < w.heap.size → w'.heap[ad.block]? = w.heap[ad.block]?) : Rd enc w' A l := fun i x hx => by
  obtain ⟨ad, e, hc⟩ := h i x hx
  have hb := World.block_lt_of_cell? w _ hc
  rw [blk_add] at hb
  exact ⟨ad, e, (World.cell?_of_block (by rw [blk_add]; exact hk ad e hb)).trans hc⟩
theorem Rd.below (h : Rd enc w A l) (hb : Below w.heap.size w w') : Rd enc w' A l := h.keep fun _ _ hl => hb.block _ hl
theorem Rd.drew (h : Rd enc w A l) : Rd enc w.drew A l := h
theorem Rd.drewN (h : Rd enc w A l) (k : Nat) : Rd enc (w.drewN k) A l := h
theorem Rd.alloc (h : Rd enc w A l) (o : Obj) : Rd enc (w.alloc o) A l := h.keep fun _ _ hl => Below.heap_alloc w o _ hl
theorem Rd.grown (h : Rd enc w A l) {row : Option Nat} (hg : w.grownBy w' row) (hr : ∀ ad, A = some ad → some ad.block ≠ row) : Rd enc w' A l :=
  h.keep fun ad e hl => hg.block _ hl (hr ad e)
theorem Rd.setCell (h : Rd enc w A l) {p : Addr} (hp : ∀ ad, A = some ad → ad.block ≠ p.block) (u : Value) : Rd enc (w.setCell p u) A l :=
  h.keep fun ad e _ => Below.heap_setCell w p u _ (hp ad e)
theorem Rd.take (h : Rd enc w A l) (k : Nat) : Rd enc w A (l.take k) := fun i x hx => by
  rw [List.getElem?_take] at hx
  split at hx
  · exact h i x hx
  · cases hx
theorem Rd.drop (h : Rd enc w A l) {k cap : Nat} (hc : l.length ≤ cap) : Rd enc w (if cap = k then A else A.map (·.add k)) (l.drop k) := fun i x hx => by
  rw [List.getElem?_drop] at hx
  have hi := (List.getElem?_eq_some_iff.1 hx).1
  obtain ⟨ad, rfl, hcell⟩ := h _ x hx
  rw [if_neg (by omega)]
  exact ⟨ad.add k, rfl, by rw [add_add_]; exact hcell⟩
theorem Rd.blk_lt (h : Rd enc w A l) (hl : l ≠ []) : ∃ ad, A = some ad ∧ ad.block < w.heap.size := by
  obtain ⟨ad, x, e, _, hc⟩ := h.at_ (k := 0) (List.length_pos_iff.2 hl)
  have hb := World.block_lt_of_cell? w _ hc
  rw [blk_add] at hb
  exact ⟨ad, e, hb⟩
end

/-! ### a slice of structs that reads as a list: every element is sz cells -/
def RdS {α : Type} (enc : α → List Value) (sz : Nat) (w : World) (A : Option Addr) (l : List α) : Prop :=
  ∀ i x, l[i]? = some x → ∃ b o, A = some ⟨b, o, none⟩ ∧ b < w.heap.size ∧ ∀ j v, (enc x)[j]? = some v → w.cell? ⟨b, o + (i * sz + j), none⟩ = some v
section
variable {α : Type} {enc : α → List Value} {sz : Nat} {w w' : World} {A : Option Addr} {l : List α}
theorem RdS.at_ (h : RdS enc sz w A l) {k : Nat} (hk : k < l.length) : ∃ b o x, A = some ⟨b, o, none⟩ ∧ b < w.heap.size ∧ l[k]? = some x ∧ ∀ j v, (enc x)[j]? = some v → w.cell? ⟨b, o + (k * sz + j), none⟩ = some v := by
  obtain ⟨b, o, e, hb, hc⟩ := h k l[k] (List.getElem?_eq_getElem hk)
  exact ⟨b, o, l[k], e, hb, List.getElem?_eq_getElem hk, hc⟩
theorem RdS.keep (h : RdS enc sz w A l) (hs : w.heap.size ≤ w'.heap.size) (hk : ∀ ad, A = some ad → ad.block < w.heap.size → w'.heap[ad.block]? = w.heap[ad.block]?) : RdS enc sz w' A l := fun i x hx => by
  obtain ⟨b, o, e, hb, hc⟩ := h i x hx
  exact ⟨b, o, e, by omega, fun j v hj => (World.cell?_of_block (a := ⟨b, o + (i * sz + j), none⟩) (hk ⟨b, o, none⟩ e hb)).trans (hc j v hj)⟩
theorem RdS.below (h : RdS enc sz w A l) (hb : Below w.heap.size w w') : RdS enc sz w' A l := h.keep hb.size fun _ _ hl => hb.block _ hl
theorem RdS.grown (h : RdS enc sz w A l) {row : Option Nat} (hg : w.grownBy w' row) (hr : ∀ ad, A = some ad → some ad.block ≠ row) : RdS enc sz w' A l :=
  h.keep hg.size fun ad e hl => hg.block _ hl (hr ad e)
end
theorem map_ex {α β : Type} {f : β → α} {p : β → Prop} : ∀ {l : List α}, (∀ x, x ∈ l → ∃ y, x = f y ∧ p y) → ∃ ys : List β, l = ys.map f ∧ ∀ y, y ∈ ys → p y
  | [], _ => ⟨[], rfl, fun y h => by cases h⟩
  | x :: l, h => by
    obtain ⟨y, rfl, hy⟩ := h x (List.mem_cons_self ..)
    obtain ⟨ys, rfl, hys⟩ := map_ex (fun z hz => h z (List.mem_cons_of_mem _ hz))
    exact ⟨y :: ys, rfl, fun z hz => by
      rcases List.mem_cons.1 hz with rfl | hz
      · exact hy
      · exact hys z hz⟩

/-! ### a slice that the call owns, from block 'base' on -/
def Own {α : Type} (enc : α → Value) (e : TypeId) (w : World) (base : Nat) (v : Value) (l : List α) : Prop := w.ownsRow base e 1 v l.length (l.map enc)
section
variable {α : Type} {enc : α → Value} {e : TypeId} {w w' : World} {base : Nat} {v : Value} {l : List α}
theorem Own.nil_ (enc : α → Value) (e : TypeId) (w : World) (base : Nat) : Own enc e w base (.slice none 0 0) [] := World.ownsRow_nil w base e 1
theorem Own.made (enc : α → Value) (e : TypeId) (w : World) {base : Nat} (hb : base ≤ w.heap.size) : Own enc e (w.alloc (.cells #[] e)) base (.slice (some ⟨w.heap.size, 0, none⟩) 0 0) [] :=
  World.ownsRow_made w #[] 0 hb (Nat.zero_le _) rfl
theorem Own.form (h : Own enc e w base v l) : (v = .slice none 0 0 ∧ l = []) ∨ ∃ g cap cs, v = .slice (some ⟨g, 0, none⟩) l.length cap ∧ base ≤ g ∧ Blk w g e cs ∧ l.length ≤ cap ∧ cap ≤ maxLen ∧ cs.size = cap ∧ cs.toList.take l.length = l.map enc := by
  obtain ⟨_, h2⟩ := h
  rcases h2 with ⟨hv, hn⟩ | ⟨g, cap, cur, hv, hg, hh, hn, hc, hs, ht⟩
  · exact .inl ⟨hv, List.eq_nil_of_length_eq_zero hn⟩
  · exact .inr ⟨g, cap, cur, hv, hg, hh, hn, hc, by omega, by simpa using ht⟩
theorem Own.slice (h : Own enc e w base v l) : ∃ A c, v = .slice A l.length c ∧ l.length ≤ c ∧ Rd enc w A l ∧ (∀ ad, A = some ad → v.ownBlock = some ad.block) := by
  rcases h.form with ⟨hv, rfl⟩ | ⟨g, cap, cs, hv, _, hb, hn, _, hs, ht⟩
  · exact ⟨none, 0, hv, Nat.le_refl _, Rd.nil_, fun _ e => by cases e⟩
  · refine ⟨some ⟨g, 0, none⟩, cap, hv, hn, fun i x hx => ⟨_, rfl, ?_⟩, fun ad e => by cases e; rw [hv]; rfl⟩
    have hi := (List.getElem?_eq_some_iff.1 hx).1
    rw [add_lit_, Nat.zero_add, hb.cell]
    have h1 : (cs.toList.take l.length)[i]? = (l.map enc)[i]? := by rw [ht]
    rw [List.getElem?_take, if_pos hi, List.getElem?_map, hx] at h1
    simpa using h1
theorem Own.len {A : Option Addr} {n c : Nat} (h : Own enc e w base (.slice A n c) l) : n = l.length ∧ n ≤ c := by
  obtain ⟨A', c', hv, hle, _⟩ := h.slice
  cases hv
  exact ⟨rfl, hle⟩
theorem Own.rd {A : Option Addr} {n c : Nat} (h : Own enc e w base (.slice A n c) l) : Rd enc w A l := by
  obtain ⟨A', c', hv, _, hr, _⟩ := h.slice
  cases hv
  exact hr
theorem Own.at_ {g n c k : Nat} (h : Own enc e w base (.slice (some ⟨g, 0, none⟩) n c) l) (hk : k < n) : ∃ x, l[k]? = some x ∧ w.cell? ⟨g, k, none⟩ = some (enc x) ∧ w.frozen? ⟨g, k, none⟩ = false := by
  obtain ⟨rfl, _⟩ := h.len
  obtain ⟨ad, x, e, hx, hc⟩ := h.rd.at_ hk
  cases e
  rw [add_lit_, Nat.zero_add] at hc
  refine ⟨x, hx, hc, ?_⟩
  rcases h.form with ⟨hv, _⟩ | ⟨g', cap', cs, hv, _, hb, _⟩
  · cases hv
  · cases hv
    exact hb.frozen k
theorem Own.pos {n : Nat} (h : Own enc e w base v l) (hn : l.length = n) (h0 : 0 < n) : ∃ g cap, v = .slice (some ⟨g, 0, none⟩) n cap ∧ base ≤ g ∧ g < w.heap.size ∧ n ≤ cap ∧ cap ≤ maxLen := by
  subst hn
  rcases h.form with ⟨_, rfl⟩ | ⟨g, cap, cs, hv, hg, hb, hn, hc, _⟩
  · simp at h0
  · exact ⟨g, cap, hv, hg, hb.lt, hn, hc⟩
theorem Own.lt (h : Own enc e w base v l) : ∀ k, v.ownBlock = some k → base ≤ k ∧ k < w.heap.size := World.ownsRow.lt h
theorem Own.alloc (h : Own enc e w base v l) (o : Obj) : Own enc e (w.alloc o) base v l := World.ownsRow.alloc h o
theorem Own.grown (h : Own enc e w base v l) {row : Option Nat} (hg : w.grownBy w' row) (hne : v.ownBlock = none ∨ v.ownBlock ≠ row) : Own enc e w' base v l := World.ownsRow.kept h hg hne
theorem Own.drewN (h : Own enc e w base v l) (n : Nat) : Own enc e (w.drewN n) base v l := h
theorem Own.keep (h : Own enc e w base v l) (hk : ∀ k, v.ownBlock = some k → k < w.heap.size → w'.heap[k]? = w.heap[k]?) : Own enc e w' base v l := by
  refine ⟨h.1, ?_⟩
  rcases h.2 with hn | ⟨g, cap, cur, rfl, hb, hgg, rest⟩
  · exact .inl hn
  · exact .inr ⟨g, cap, cur, rfl, hb, (hk g rfl (Array.getElem?_eq_some_iff.1 hgg).1).trans hgg, rest⟩
theorem Own.below (h : Own enc e w base v l) (hb : Below w.heap.size w w') : Own enc e w' base v l := h.keep fun _ _ hl => hb.block _ hl
theorem Own.far (h : Own enc e w base v l) {p : Addr} (hp : v.ownBlock ≠ some p.block) (u : Value) : Own enc e (w.setCell p u) base v l :=
  h.keep fun k hk _ => Below.heap_setCell w p u k (fun e => hp (by rw [hk, e]))
theorem Own.lower {base' : Nat} (h : Own enc e w base v l) (hb : base' ≤ base) : Own enc e w base' v l := by
  refine ⟨h.1, ?_⟩
  rcases h.2 with hn | ⟨g, cap, cur, rfl, hg, rest⟩
  · exact .inl hn
  · exact .inr ⟨g, cap, cur, rfl, Nat.le_trans hb hg, rest⟩
theorem Own.of_blk {g cap : Nat} {cs : Array Value} (hb : Blk w g e cs) (hg : base ≤ g) (hn : l.length ≤ cap) (hc : cap ≤ maxLen) (hs : cs.size = cap) (ht : cs.toList.take l.length = l.map enc) :
    Own enc e w base (.slice (some ⟨g, 0, none⟩) l.length cap) l := ⟨by simp, .inr ⟨g, cap, cs, rfl, hg, hb, hn, hc, by omega, by simpa using ht⟩⟩
theorem Own.take_ {g n cap : Nat} (h : Own enc e w base (.slice (some ⟨g, 0, none⟩) n cap) l) (k : Nat) (hk : k ≤ l.length) : Own enc e w base (.slice (some ⟨g, 0, none⟩) k cap) (l.take k) := by
  rcases h.form with ⟨hv, _⟩ | ⟨g', cap', cs, hv, hg, hb, hn, hc, hs, ht⟩
  · cases hv
  · cases hv
    have hl : (l.take k).length = k := by rw [List.length_take]; omega
    have := Own.of_blk (enc := enc) (l := l.take k) hb hg (by omega) hc hs (by rw [hl, List.map_take, ← ht, List.take_take]; congr 1; omega)
    rwa [hl] at this
theorem Own.set_ {g n cap : Nat} (h : Own enc e w base (.slice (some ⟨g, 0, none⟩) n cap) l) (i : Nat) (x : α) : Own enc e (w.setCell ⟨g, i, none⟩ (enc x)) base (.slice (some ⟨g, 0, none⟩) n cap) (l.set i x) := by
  rcases h.form with ⟨hv, _⟩ | ⟨g', cap', cs, hv, hg, hb, hn, hc, hs, ht⟩
  · cases hv
  · cases hv
    have := Own.of_blk (enc := enc) (l := l.set i x) (hb.set_ i (enc x)) hg (by simpa using hn) hc (by simpa using hs) (by
      rw [List.length_set, Array.toList_setIfInBounds, List.take_set, ht, List.map_set])
    simpa using this
end
theorem Own.type_ne {α β : Type} {f : α → Value} {f' : β → Value} {e e' : TypeId} {w : World} {b b' : Nat} {v v' : Value} {l : List α} {l' : List β} (h : Own f e w b v l) (h' : Own f' e' w b' v' l') (hne : e ≠ e') : v.ownBlock = none ∨ v.ownBlock ≠ v'.ownBlock := by
  rcases h.form with ⟨rfl, _⟩ | ⟨g, cap, cs, rfl, _, hb, _⟩
  · exact .inl rfl
  · refine .inr ?_
    rcases h'.form with ⟨rfl, _⟩ | ⟨g', cap', cs', rfl, _, hb', _⟩
    · simp [Value.ownBlock]
    · have := hb.ne_ hb' hne
      simpa [Value.ownBlock] using this
theorem Own.blk_ne {α : Type} {f : α → Value} {e t : TypeId} {w : World} {b g : Nat} {v : Value} {l : List α} {cs : Array Value} (h : Own f e w b v l) (hb : Blk w g t cs) (hne : e ≠ t) : v.ownBlock ≠ some g := by
  rcases h.form with ⟨rfl, _⟩ | ⟨g', cap, cs', rfl, _, hb', _⟩
  · simp [Value.ownBlock]
  · have := hb'.ne_ hb hne
    simpa [Value.ownBlock] using this

/-! ### append -/
structure SlTy (P : Program) (t e : TypeId) (size bytes : Nat) : Prop where
  und : P.underlying t = some (.slice e)
  ex : ∃ i z, P.info? e = some i ∧ i.zero = some z ∧ i.size = size ∧ i.bytes = bytes ∧ z.cells.size = size
theorem SlTy.mk' {P : Program} {t e : TypeId} {z : Value} {size bytes : Nat} (ht : P.underlying t = some (.slice e)) (h : (P.info? e).map (fun i => (i.zero, i.size, i.bytes)) = some (some z, size, bytes)) (hz : z.cells.size = size) : SlTy P t e size bytes := by
  obtain ⟨i, hi, h1, h2, h3⟩ := info_parts h
  exact ⟨ht, i, z, hi, h1, h2, h3, hz⟩

section
variable {P : Program} (w : World)
theorem run_append_none (t ty e : TypeId) (size bytes base n : Nat) (T : SlTy P t e size bytes) (v : Value) (xs : List Value) (hown : w.ownsRow base e size v n xs) (c : Nat) :
    (Builtin.append_ #[t, t] ty #[v, .slice none 0 c]).run P w = .ok v w := by
  obtain ⟨i, z, hi, hz, hs, hby, hzs⟩ := T.ex
  rcases hown.2 with ⟨rfl, rfl⟩ | ⟨g, cap, cur, rfl, _, _, hnc, _⟩
  · simp [Builtin.append_, run_underlying T.und, sizeOf, typeInfo, hi, Builtin.lenOf, Builtin.firstCells]
  · simp [Builtin.append_, run_underlying T.und, sizeOf, typeInfo, hi, Builtin.lenOf, Builtin.firstCells, hnc, storeCells]

theorem run_appendO {α : Type} {enc : α → Value} {t e : TypeId} {bytes : Nat} (T : SlTy P t e 1 bytes) (h1 : ∀ x, (enc x).oneCell' = true) (ty : TypeId) (base : Nat) (v : Value) (l m : List α) (hown : Own enc e w base v l)
    (A : Option Addr) (c : Nat) (hr : Rd enc w A m) (h63 : l.length + m.length ≤ maxLen) (hbytes : (l.length + m.length) * bytes ≤ 140737488355328) (hbase : base ≤ w.heap.size) :
    ∃ v' w', (Builtin.append_ #[t, t] ty #[v, .slice A m.length c]).run P w = .ok v' w' ∧ Own enc e w' base v' (l ++ m) ∧ w.grownBy w' v.ownBlock ∧ (v'.ownBlock = v.ownBlock ∨ v'.ownBlock = some w.heap.size) := by
  obtain ⟨i, z, hi, hz, hs, hby, hzs⟩ := T.ex
  rcases A with _ | ad
  · have hm : m = [] := by
      cases m with
      | nil => rfl
      | cons x m => obtain ⟨_, h, _⟩ := hr 0 x rfl; cases h
    subst hm
    exact ⟨v, w, run_append_none w t ty e 1 bytes base _ T v _ hown c, by simpa using hown, ⟨rfl, rfl, rfl, Nat.le_refl _, fun _ _ _ => rfl⟩, .inl rfl⟩
  · have hcells : ∀ j u, (m.map enc)[j]? = some u → w.cell? (ad.add j) = some u := by
      intro j u hu
      rw [List.getElem?_map] at hu
      obtain ⟨x, hx, rfl⟩ := Option.map_eq_some_iff.1 hu
      obtain ⟨ad', h, hc⟩ := hr j x hx
      cases h
      exact hc
    obtain ⟨v', w', hrun, h2, h3, _, h5⟩ := run_append_own_at (P := P) w base t ty e i z 1 bytes T.und hi hz hs hby hzs (by omega) v _ _ hown ad m.length c (m.map enc) (by simp) hcells
      (fun u hu => by obtain ⟨x, _, rfl⟩ := List.mem_map.1 hu; exact h1 x) h63 hbytes hbase
    refine ⟨v', w', hrun, ?_, h3, h5⟩
    unfold Own
    rw [List.length_append, List.map_append]
    exact h2

theorem wp_appendO {α : Type} {enc : α → Value} {t e : TypeId} {bytes : Nat} (T : SlTy P t e 1 bytes) (h1 : ∀ x, (enc x).oneCell' = true) {o : Oper} {a : Act} {K : Act → World → Prop} {Q : Exit → Act → World → Prop} (s x : Operand)
    (ho : o.op = .call { callee := .builtin .append, args := #[s, x], argTypes := #[t, t] }) (base : Nat) (v : Value) (l m : List α) (hs : a.eval s = v) (hown : Own enc e w base v l)
    (A : Option Addr) (c : Nat) (hx : a.eval x = .slice A m.length c) (hr : Rd enc w A m) (h63 : l.length + m.length ≤ maxLen) (hbytes : (l.length + m.length) * bytes ≤ 140737488355328) (hbase : base ≤ w.heap.size)
    (h : ∀ v' w', Own enc e w' base v' (l ++ m) → w.grownBy w' v.ownBlock → (v'.ownBlock = v.ownBlock ∨ v'.ownBlock = some w.heap.size) → K (a.put o.dst v') w') : o.wp P a w K Q := by
  obtain ⟨v', w', hrun, h2, h3, h4⟩ := run_appendO (P := P) w T h1 o.type base v l m hown A c hr h63 hbytes hbase
  unfold Oper.wp execOp
  simp only [ho, resolve, invoke, builtin, Sem.run_bind, Sem.run_pure, Result.andThen_ok, List.map_toArray, List.map_cons, List.map_nil, hs, hx, hrun]
  exact h v' w' h2 h3 h4
theorem wpList_appendO {α : Type} {enc : α → Value} {t e : TypeId} {bytes : Nat} (T : SlTy P t e 1 bytes) (h1 : ∀ x, (enc x).oneCell' = true) {ops : Array Oper} {rest : List Oper} {o : Oper} {a : Act} {Q : Exit → Act → World → Prop} (hgd : o.guard = none) (s x : Operand)
    (ho : o.op = .call { callee := .builtin .append, args := #[s, x], argTypes := #[t, t] }) (base : Nat) (v : Value) (l m : List α) (hs : a.eval s = v) (hown : Own enc e w base v l)
    (A : Option Addr) (c : Nat) (hx : a.eval x = .slice A m.length c) (hr : Rd enc w A m) (h63 : l.length + m.length ≤ maxLen) (hbytes : (l.length + m.length) * bytes ≤ 140737488355328) (hbase : base ≤ w.heap.size)
    (h : ∀ v' w', Own enc e w' base v' (l ++ m) → w.grownBy w' v.ownBlock → (v'.ownBlock = v.ownBlock ∨ v'.ownBlock = some w.heap.size) → wpList P ops Q rest (a.put o.dst v') w') : wpList P ops Q (o :: rest) a w :=
  wpList_plain hgd fun _ hK => wp_appendO w T h1 s x ho base v l m hs hown A c hx hr h63 hbytes hbase fun v' w' h2 h3 h4 => hK _ _ (h v' w' h2 h3 h4)
end
section
variable {P : Program} (w : World)
/-- append at a step of a region that draws its order -/
theorem step_appendO {α : Type} {enc : α → Value} {t e : TypeId} {bytes : Nat} (T : SlTy P t e 1 bytes) (h1 : ∀ x, (enc x).oneCell' = true) {ops : Array Oper} {o : Oper} {a : Act} {K : Act → World → Prop} {Q : Exit → Act → World → Prop} {E : Prop} (hgd : o.guard = none) (s x : Operand)
    (ho : o.op = .call { callee := .builtin .append, args := #[s, x], argTypes := #[t, t] }) (base : Nat) (v : Value) (l m : List α) (hs : a.eval s = v) (hown : Own enc e w base v l)
    (A : Option Addr) (c : Nat) (hx : a.eval x = .slice A m.length c) (hr : Rd enc w A m) (h63 : l.length + m.length ≤ maxLen) (hbytes : (l.length + m.length) * bytes ≤ 140737488355328) (hbase : base ≤ w.heap.size)
    (h : ∀ v' w', Own enc e w' base v' (l ++ m) → w.grownBy w' v.ownBlock → (v'.ownBlock = v.ownBlock ∨ v'.ownBlock = some w.heap.size) → K (a.put o.dst v') w') :
    if Region.wanted o (yielded ops a.tmps) = true then Oper.wp P o a w K Q else E := by
  rw [if_pos (by simp [Region.wanted, hgd])]
  exact wp_appendO w T h1 s x ho base v l m hs hown A c hx hr h63 hbytes hbase h
end
/-- one new cell that is handed to append -/
theorem Rd.one {α : Type} (enc : α → Value) (w : World) (t : TypeId) (x : α) : Rd enc (w.alloc (.cells #[enc x] t)) (some ⟨w.heap.size, 0, none⟩) [x] := fun i y hy => by
  refine ⟨_, rfl, ?_⟩
  match i, hy with
  | 0, hy =>
    cases hy
    rw [add_zero_, World.cell?_alloc_new]
    rfl

theorem below_own {α : Type} {enc : α → Value} {e : TypeId} {B base : Nat} {a w w' : World} {v : Value} {l : List α} (h : Below B a w) (ho : Own enc e w base v l) (hb : B ≤ base) (hg : w.grownBy w' v.ownBlock) (hB : B ≤ w.heap.size) : Below B a w' :=
  h.grown hg hB fun k hk => Nat.le_trans hb (ho.lt k hk).1
theorem below_drewN {B : Nat} {a w : World} (h : Below B a w) (n : Nat) : Below B a (w.drewN n) := ⟨h.os, h.tape, h.output, h.size, h.block⟩

theorem only_refl (w : World) (row : Option Nat) : w.grownBy w row := ⟨rfl, rfl, rfl, Nat.le_refl _, fun _ _ _ => rfl⟩
theorem only_trans {a b c : World} {row : Option Nat} (h : a.grownBy b row) (k : b.grownBy c row) : a.grownBy c row :=
  ⟨k.os.trans h.os, k.tape.trans h.tape, k.output.trans h.output, Nat.le_trans h.size k.size, fun i hi hne => (k.block i (Nat.lt_of_lt_of_le hi h.size) hne).trans (h.block i hi hne)⟩
theorem only_drewN {a w : World} {row : Option Nat} (h : a.grownBy w row) (n : Nat) : a.grownBy (w.drewN n) row := ⟨h.os, h.tape, h.output, h.size, h.block⟩
theorem only_alloc {a w : World} {row : Option Nat} (h : a.grownBy w row) (o : Obj) : a.grownBy (w.alloc o) row :=
  ⟨h.os, h.tape, h.output, Nat.le_trans h.size (by simp), fun i hi hne => (Below.heap_alloc w o i (Nat.lt_of_lt_of_le hi h.size)).trans (h.block i hi hne)⟩
theorem only_setCell {a w : World} {g : Nat} (h : a.grownBy w (some g)) {p : Addr} (hp : p.block = g ∨ a.heap.size ≤ p.block) (u : Value) : a.grownBy (w.setCell p u) (some g) :=
  ⟨h.os, h.tape, h.output, by simpa [World.setCell] using h.size, fun i hi hne => (Below.heap_setCell w p u i (by
    rintro rfl
    rcases hp with hp | hp
    · exact hne (by rw [hp])
    · omega)).trans (h.block i hi hne)⟩
theorem only_below {a b : World} (h : Below a.heap.size a b) (row : Option Nat) : a.grownBy b row := ⟨h.os, h.tape, h.output, h.size, fun i hi _ => h.block i hi⟩
/-- a row of the call's own has turned: what lay below is as it was -/
theorem below_only {B : Nat} {a w w' : World} (h : Below B a w) {g : Nat} (hg : w.grownBy w' (some g)) (hB : B ≤ w.heap.size) (hb : B ≤ g) : Below B a w' := h.grown hg hB fun k hk => by cases hk; exact hb

theorem Rd.two {α : Type} (enc : α → Value) (w : World) (t : TypeId) (x y : α) : Rd enc (w.alloc (.cells #[enc x, enc y] t)) (some ⟨w.heap.size, 0, none⟩) [x, y] := fun i z hz => by
  refine ⟨_, rfl, ?_⟩
  match i, hz with
  | 0, hz => cases hz; rw [add_lit_, World.cell?_alloc_new]; rfl
  | 1, hz => cases hz; rw [add_lit_, World.cell?_alloc_new]; rfl

/-! ### machine words: the number of a UInt8, UInt32, UInt64, behind a name that simp does not open -/
def vB (b : UInt8) : Int := (b.toNat : Int)
def v32 (x : UInt32) : Int := (x.toNat : Int)
def v64 (x : UInt64) : Int := (x.toNat : Int)
abbrev encB (b : UInt8) : Value := .int .u8 (vB b)
abbrev enc32 (x : UInt32) : Value := .int .u32 (v32 x)
abbrev enc64 (x : UInt64) : Value := .int .u64 (v64 x)
abbrev encI (x : Int) : Value := .int .i64 x
theorem vB_rng (b : UInt8) : 0 ≤ vB b ∧ vB b < 256 := by have := b.toNat_lt; unfold vB; omega
theorem v32_rng (x : UInt32) : 0 ≤ v32 x ∧ v32 x < 4294967296 := by have := x.toNat_lt; unfold v32; omega
theorem v64_rng (x : UInt64) : 0 ≤ v64 x ∧ v64 x < 18446744073709551616 := by have := x.toNat_lt; unfold v64; omega
theorem vB_inj {x y : UInt8} (h : vB x = vB y) : x = y := UInt8.toNat_inj.1 (by unfold vB at h; omega)
theorem v32_inj {x y : UInt32} (h : v32 x = v32 y) : x = y := UInt32.toNat_inj.1 (by unfold v32 at h; omega)
theorem v64_inj {x y : UInt64} (h : v64 x = v64 y) : x = y := UInt64.toNat_inj.1 (by unfold v64 at h; omega)
theorem vB_beq (x y : UInt8) : (vB x == vB y) = decide (x = y) := by
  rw [Bool.eq_iff_iff, beq_iff_eq, decide_eq_true_iff]; exact ⟨vB_inj, fun h => by rw [h]⟩
theorem v32_beq (x y : UInt32) : (v32 x == v32 y) = decide (x = y) := by
  rw [Bool.eq_iff_iff, beq_iff_eq, decide_eq_true_iff]; exact ⟨v32_inj, fun h => by rw [h]⟩
theorem vB_of {n : Nat} (h : n < 256) : (n : Int) = vB (UInt8.ofNat n) := by
  unfold vB; rw [UInt8.toNat_ofNat_of_lt' (by exact h)]
theorem v32_of {n : Nat} (h : n < 4294967296) : (n : Int) = v32 (UInt32.ofNat n) := by
  unfold v32; rw [UInt32.toNat_ofNat_of_lt' (by exact h)]
theorem v64_of {n : Nat} (h : n < 18446744073709551616) : (n : Int) = v64 (UInt64.ofNat n) := by
  unfold v64; rw [UInt64.toNat_ofNat_of_lt' (by exact h)]
theorem vB_ex {n : Int} (h : (Lit.int .u8 n).wf = true) : ∃ b, n = vB b := by
  have h2 : 0 ≤ n ∧ n < 256 := by
    have := h; simp [Lit.wf] at this; have e1 : IntKind.u8.min = 0 := rfl; have e2 : IntKind.u8.max = 255 := rfl; omega
  obtain ⟨m, rfl⟩ := Int.eq_ofNat_of_zero_le h2.1
  exact ⟨_, vB_of (by omega)⟩
theorem v32_ex {n : Int} (h : (Lit.int .u32 n).wf = true) : ∃ x, n = v32 x := by
  have h2 : 0 ≤ n ∧ n < 4294967296 := by
    have := h; simp [Lit.wf] at this; have e1 : IntKind.u32.min = 0 := rfl; have e2 : IntKind.u32.max = 4294967295 := rfl; omega
  obtain ⟨m, rfl⟩ := Int.eq_ofNat_of_zero_le h2.1
  exact ⟨_, v32_of (by omega)⟩
theorem signed_u32 : IntKind.u32.signed = false := rfl
theorem max_u32 : IntKind.u32.max = 4294967295 := rfl
theorem u32_xor_ (x y : UInt32) : bits .xor .u32 (v32 x) (v32 y) = v32 (x ^^^ y) := u32_xor_nat _ _ x.toNat_lt y.toNat_lt
theorem u32_and_ (x y : UInt32) : bits .and .u32 (v32 x) (v32 y) = v32 (x &&& y) := u32_and_nat _ _ x.toNat_lt y.toNat_lt
theorem u32_or_ (x y : UInt32) : bits .or .u32 (v32 x) (v32 y) = v32 (x ||| y) := u32_or_nat _ _ x.toNat_lt y.toNat_lt
theorem u32_not_ (x : UInt32) : bits .xor .u32 4294967295 (v32 x) = v32 (4294967295 ^^^ x) := u32_xor_ 4294967295 x
theorem u32_notr_ (x : UInt32) : bits .xor .u32 (v32 x) 4294967295 = v32 (4294967295 ^^^ x) := by rw [UInt32.xor_comm]; exact u32_xor_ x 4294967295
theorem u32_and1_ (x : UInt32) : bits .and .u32 (v32 x) 1 = v32 (x &&& 1) := u32_and_ x 1
theorem u8_xor_ (x y : UInt8) : bits .xor .u8 (vB x) (vB y) = vB (x ^^^ y) := u8_xor_nat _ _ x.toNat_lt y.toNat_lt
theorem u8_and_ (x y : UInt8) : bits .and .u8 (vB x) (vB y) = vB (x &&& y) := u8_and_nat _ _ x.toNat_lt y.toNat_lt
theorem u8_or_ (x y : UInt8) : bits .or .u8 (vB x) (vB y) = vB (x ||| y) := u8_or_nat _ _ x.toNat_lt y.toNat_lt
theorem u8_or1_ (x : UInt8) : bits .or .u8 (vB x) 1 = vB (x ||| 1) := u8_or_ x 1
theorem u8_to_u32 (b : UInt8) : vB b % 4294967296 = v32 b.toUInt32 := by
  have := b.toNat_lt
  unfold vB v32
  rw [UInt8.toNat_toUInt32]; omega
theorem u32_add_ (x y : UInt32) : (v32 x + v32 y) % 4294967296 = v32 (x + y) := by
  unfold v32
  rw [UInt32.toNat_add]; omega
theorem u32_shr_ (x : UInt32) (k : Nat) (d : Int) (hk : k < 32) (hd : d = ((2 ^ k : Nat) : Int)) : v32 x / d = v32 (x >>> (UInt32.ofNat k)) := by
  unfold v32
  rw [UInt32.toNat_shiftRight, UInt32.toNat_ofNat_of_lt' (by show k < 2 ^ 32; omega), Nat.mod_eq_of_lt hk, Nat.shiftRight_eq_div_pow, hd]; rfl
theorem u32_half (x : UInt32) : v32 x / (2 : Int) = v32 (x >>> 1) := u32_shr_ x 1 2 (by omega) rfl
theorem min_two_ (ats : Array TypeId) (ty : TypeId) (k k' : IntKind) (x y : Int) : Builtin.min_ ats ty #[.int k x, .int k' y] = pure (.int k (min x y)) := by
  simp only [Builtin.min_, List.foldlM_cons, List.foldlM_nil, Builtin.min2]
  rw [show (if y < x then y else x) = min x y from by rw [Int.min_def]; split <;> split <;> omega]
  rfl
theorem max_two_ (ats : Array TypeId) (ty : TypeId) (k k' : IntKind) (x y : Int) : Builtin.max_ ats ty #[.int k x, .int k' y] = pure (.int k (max x y)) := by
  simp only [Builtin.max_, List.foldlM_cons, List.foldlM_nil, Builtin.max2]
  rw [show (if y > x then y else x) = max x y from by rw [Int.max_def]; split <;> split <;> omega]
  rfl
theorem i64_in_ (x : Int) (h : -9223372036854775808 ≤ x ∧ x ≤ 9223372036854775807) : IntKind.i64.wrap x = x := by rw [IntKind.wrap_i64]; omega
theorem int_inj {k : IntKind} {a b : Int} (h : a = b) : Value.int k a = .int k b := by rw [h]
theorem ret_inj {k : IntKind} {a b : Int} (h : a = b) : Ending.returned (.int k a) = .returned (.int k b) := by rw [h]
theorem ret_bool {a b : Bool} (h : a = b) : Ending.returned (.bool a) = .returned (.bool b) := by rw [h]
end Go.Proofs.YtdhccjmokmdboaaDoor
