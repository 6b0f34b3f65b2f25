/- The transfer log: what Unacked is built of: the map gone over, the pointers sorted; plain laws. -/
import Derived.Test.YtagkhhoimgighaaAck
import Derived.Maps.RangeWalk
import Derived.Shelf.SlSortCmp.NoneTotal
import Derived.Shelf.Lay
import Derived.Shelf.SlGeneric
import Derived.Ground.SlsfProg
namespace Go.Proofs.Ytagkhhoimgighaa
open Go.RowKit

/-! ### plain -/
theorem key_ne {a b : Int} (h : a ≠ b) : (Lit.int .i64 a).sameKey (.int .i64 b) = false := by simp [Lit.sameKey, h]
theorem key_self (a : Int) : (Lit.int .i64 a).sameKey (.int .i64 a) = true := by simp [Lit.sameKey]
def unA (l : List Wr) : List Wr := l.filter fun x => !x.acked
def toCome (l : List Wr) (left : Lit → Bool) : List Wr := l.filter fun x => !x.acked && left (.int .i64 x.id)
def strikeL (left : Lit → Bool) (id : Int) : Lit → Bool := fun z => left z && !z.sameKey (.int .i64 id)
theorem toCome_perm {l : List Wr} (hd : l.Pairwise fun x y => x.id ≠ y.id) {left : Lit → Bool} {x : Wr} (hx : x ∈ l) (hl : left (.int .i64 x.id) = true) :
    (toCome l left).Perm (if x.acked = true then toCome l (strikeL left x.id) else x :: toCome l (strikeL left x.id)) := by
  induction l with
  | nil => cases hx
  | cons y l ih =>
    rw [List.pairwise_cons] at hd
    by_cases e : y = x
    · subst e
      have ht : toCome l (strikeL left y.id) = toCome l left := List.filter_congr fun z hz => by
        show (!z.acked && (left (.int .i64 z.id) && !(Lit.int .i64 z.id).sameKey (.int .i64 y.id))) = _
        rw [key_ne (fun e => hd.1 z hz e.symm)]; simp
      have hh : toCome (y :: l) (strikeL left y.id) = toCome l left := by
        rw [← ht]
        unfold toCome
        rw [List.filter_cons_of_neg (by simp [strikeL, key_self])]
      rw [hh]
      cases ha : y.acked
      · simp [toCome, ha, hl]
      · simp [toCome, ha]
    · have hx' : x ∈ l := (List.mem_cons.1 hx).resolve_left (fun h => e h.symm)
      have hne : y.id ≠ x.id := hd.1 x hx'
      have hk : strikeL left x.id (.int .i64 y.id) = left (.int .i64 y.id) := by simp [strikeL, key_ne hne]
      have hi := ih hd.2 hx'
      by_cases hp : (!y.acked && left (.int .i64 y.id)) = true
      · have e1 : toCome (y :: l) left = y :: toCome l left := List.filter_cons_of_pos hp
        have e2 : toCome (y :: l) (strikeL left x.id) = y :: toCome l (strikeL left x.id) := List.filter_cons_of_pos (by rw [hk]; exact hp)
        rw [e1, e2]
        split at hi
        · rename_i ha; rw [if_pos ha]; exact hi.cons y
        · rename_i ha; rw [if_neg ha]; exact (hi.cons y).trans (List.Perm.swap ..)
      · have e1 : toCome (y :: l) left = toCome l left := List.filter_cons_of_neg hp
        have e2 : toCome (y :: l) (strikeL left x.id) = toCome l (strikeL left x.id) := List.filter_cons_of_neg (by rw [hk]; exact hp)
        rw [e1, e2]; exact hi
theorem toCome_none {l : List Wr} {left : Lit → Bool} (h : ∀ k, left k = false) : toCome l left = [] := List.filter_eq_nil_iff.2 fun x _ => by simp [h]
theorem toCome_all {l : List Wr} {left : Lit → Bool} (h : ∀ x ∈ l, left (.int .i64 x.id) = true) : toCome l left = unA l := List.filter_congr fun x hx => by rw [h x hx, Bool.and_true]
theorem unA_sub (l : List Wr) : (unA l).Sublist l := List.filter_sublist
theorem findW_mem {l : List Wr} {id : Int} {g : Nat} (h : findW l id = some g) : ∃ x ∈ l, x.id = id ∧ x.at_ = g := by
  rw [findO_W] at h
  obtain ⟨x, h1, h2⟩ := Option.map_eq_some_iff.1 h
  exact ⟨x, (findO_some h1).1, (findO_some h1).2, h2⟩
theorem findW_at {l : List Wr} (hd : l.Pairwise fun x y => x.id ≠ y.id) {x : Wr} (hx : x ∈ l) : findW l x.id = some x.at_ := by
  cases h : findW l x.id with
  | none => exact absurd rfl (findW_none h x hx)
  | some g =>
    obtain ⟨y, hy, h1, h2⟩ := findW_mem h
    rw [← h2, pair_eq hd hy hx h1]

/-! ### the map, gone over -/
theorem ptrR_inv2 (v : Value) (y : DataW Unit × List MemPlace) (h : ptrR v = some y) : ∃ c, v = ptrV c := by
  unfold ptrR at h
  split at h
  · exact ⟨none, rfl⟩
  · rename_i g; exact ⟨some g, rfl⟩
  · cases h
theorem ptrC_inj {a b : Option Nat} (h : ptrC a = ptrC b) : a = b := by
  cases a <;> cases b <;> simp [ptrC] at h ⊢
  all_goals omega
section
variable {P : Program} {w : World} {k : TypeId} {b r n cnt : Nat} {D : DataW Unit} {left : Lit → Bool} {f : Int → Option Nat} {ops : Array Oper} {rest : List Oper} {o : Oper} {a : Act} {Q : Exit → Act → World → Prop}
theorem wpList_nextP (hg : o.guard = none) (it : Operand) (hop : o.op = Op.next it false) (hk : P.underlying k = some (.int .i64)) (hit : a.eval it = .pointer (some ⟨r, 0, none⟩)) (h : w.ranges P k ptrR b r n D left cnt)
    (hat : ∀ id, (Lit.int .i64 id).wf = true → D.atKey (.int .i64 id) (.lit (.int .i64 (-1))) = .lit (.int .i64 (ptrC (f id)))) (hhas : ∀ id, (Lit.int .i64 id).wf = true → Maps.has D (.int .i64 id) = true → f id ≠ none)
    (hDone : (∀ kl, left kl = false) → wpList P ops Q rest (a.put o.dst (.tuple #[.bool false])) w)
    (hMore : ∀ (id : Int) (g : Nat) (w' : World) (cnt' : Nat), (Lit.int .i64 id).wf = true → f id = some g → left (.int .i64 id) = true → w'.ranges P k ptrR b r n D (strikeL left id) cnt' → cnt' < cnt → w.grownBy w' (some r) → w'.heap.size = w.heap.size →
      (Instr.entry (.pointer (some ⟨r, 0, none⟩))).run P w' = .ok (.tuple #[.int .i64 id, .pointer (some ⟨g, 0, none⟩)]) w' → wpList P ops Q rest (a.put o.dst (.tuple #[.bool true, .int .i64 id, .pointer (some ⟨g, 0, none⟩)])) w') :
    wpList P ops Q (o :: rest) a w :=
  wpList_next_ranges w hg it hop k (Maps.int_keyed hk) ptrR (Value.int .i64) ptrV (fun key kl hkey => by obtain ⟨x, rfl, _⟩ := Maps.keyOf_int_inv hk hkey; exact ⟨x, rfl⟩) ptrR_inv2 b r n D left cnt hit h (fun _ hl => hDone hl)
    fun x c kl y w' cnt' hkey hlk hR hat' hrg hlt hgr hsz hen => by
      obtain ⟨x', ex, rfl, hw⟩ := Maps.keyOf_int_inv hk hkey
      cases ex
      rw [ptrR_mk] at hR
      cases hR
      have h1 := hat x hw
      rw [hat' _] at h1
      have h2 : ptrC c = ptrC (f x) := by injection h1 with h1; injection h1
      have h3 := ptrC_inj h2
      have h4 := hhas x hw (Maps.has_true_of_atKey hat')
      cases hc : f x with
      | none => exact absurd hc h4
      | some g =>
        rw [hc] at h3
        subst h3
        exact hMore x g w' cnt' hw hc hlk hrg hlt hgr hsz hen
end
theorem ranges_own_ne {α : Type} {enc : α → Value} {e : TypeId} {P : Program} {w : World} {k : TypeId} {R : Value → Option (DataW Unit × List MemPlace)} {b r n base : Nat} {D : DataW Unit} {left : Lit → Bool} {cnt : Nat} {v : Value} {l : List α}
    (h : w.ranges P k R b r n D left cnt) (ho : Own enc e w base v l) : some b ≠ v.ownBlock ∧ some r ≠ v.ownBlock := by
  obtain ⟨es, clock, since, seen, c0, hb, _, _, _, hr, _⟩ := h
  rcases ho.form with ⟨rfl, _⟩ | ⟨g, cap, cs, rfl, _, hB, _⟩
  · exact ⟨by simp [Value.ownBlock], by simp [Value.ownBlock]⟩
  · unfold Blk at hB
    refine ⟨fun h => ?_, fun h => ?_⟩
    · simp only [Value.ownBlock, Option.some.injEq] at h; subst h; rw [hB] at hb; cases hb
    · simp only [Value.ownBlock, Option.some.injEq] at h; subst h; rw [hB] at hr; cases hr

/-! ### sorted by their turns -/
def turnC (x y : Wr) : Int := if x.turn < y.turn then -1 else 1
theorem sorted_unA {l : List Wr} (ht : l.Pairwise fun x y => x.turn < y.turn) {d : List Wr} (hp : d.Perm (unA l)) (hs : d.Pairwise fun x y => ¬ y.turn < x.turn) : d = unA l := by
  have hu : (unA l).Pairwise fun x y => x.turn < y.turn := ht.sublist (unA_sub l)
  refine List.Perm.eq_of_pairwise (le := fun x y => ¬ y.turn < x.turn) ?_ hs (hu.imp fun h => by omega) hp
  intro a b ha hb h1 h2
  have hb' : b ∈ unA l := hb
  have ha' : a ∈ unA l := hp.mem_iff.1 ha
  obtain ⟨i, hi, rfl⟩ := List.getElem_of_mem ha'
  obtain ⟨j, hj, rfl⟩ := List.getElem_of_mem hb'
  rcases Nat.lt_trichotomy i j with h | h | h
  · have := List.pairwise_iff_getElem.1 hu i j hi hj h; omega
  · subst h; rfl
  · have := List.pairwise_iff_getElem.1 hu j i hj hi h; omega
end Go.Proofs.Ytagkhhoimgighaa
