/- The document's log: what its questions answer, beside the program's (plain; no memory, no walk). -/
import Derived.Test.YtagkhhoimgighaaTlSim
import Derived.Test.YtagkhhoimgighaaTlUa
namespace Go.Proofs.Ytagkhhoimgighaa
open Go.RowKit
set_option linter.unusedVariables false
set_option linter.unusedSimpArgs false
/-- one step of the count of closed epochs: the count, and the epoch that was counted last -/
def epStep (now : Int) (p : Int × Int) (e : Int) : Int × Int := if e ≠ now ∧ e ≠ p.2 then (p.1 + 1, e) else p
def epS (now : Int) (l : List Ln) : Int × Int := (l.map fun x => x.2.2.1).foldl (epStep now) (0, 0)
theorem epS_take {l : List Ln} {k : Nat} {x : Ln} (now : Int) (hx : l[k]? = some x) : epS now (l.take (k + 1)) = epStep now (epS now (l.take k)) x.2.2.1 := by
  unfold epS
  rw [List.take_add_one, hx, Option.toList_some, List.map_append, List.foldl_append]
  rfl
theorem epStep_le (now : Int) (p : Int × Int) (e : Int) : (epStep now p e).1 ≤ p.1 + 1 ∧ p.1 ≤ (epStep now p e).1 := by
  unfold epStep
  split
  · exact ⟨Int.le_refl _, by show p.1 ≤ p.1 + 1; omega⟩
  · exact ⟨by omega, Int.le_refl _⟩
theorem epS_bound (now : Int) (l : List Ln) : 0 ≤ (epS now l).1 ∧ (epS now l).1 ≤ l.length := by
  unfold epS
  have go : ∀ (es : List Int) (p : Int × Int), p.1 ≤ (es.foldl (epStep now) p).1 ∧ (es.foldl (epStep now) p).1 ≤ p.1 + es.length := by
    intro es
    induction es with
    | nil => intro p; simp
    | cons e es ih =>
      intro p
      rw [List.foldl_cons, List.length_cons]
      have h1 := ih (epStep now p e)
      have h2 := epStep_le now p e
      omega
  have := go (l.map fun x => x.2.2.1) (0, 0)
  simpa using this
theorem epF_open (o : Int) : ∀ (es : List Int) (p : Int × Int), (∀ e ∈ es, e = o) → es.foldl (epStep o) p = p
  | [], _, _ => rfl
  | e :: es, p, h => by
    rw [List.foldl_cons, show epStep o p e = p from if_neg fun hc => hc.1 (h e (List.mem_cons_self ..))]
    exact epF_open o es p fun x hx => h x (List.mem_cons_of_mem _ hx)
theorem epF (o : Int) : ∀ (es : List Int) (n last : Int), (last :: es).Pairwise (· ≤ ·) → (∀ e ∈ es, e ≤ o) → last < o → (∀ e, last < e → e < o → e ∈ es) → (es.foldl (epStep o) (n, last)).1 = n + (o - 1 - last)
  | [], n, last, _, _, hl, hg => by
    have : ¬ last + 1 < o := fun h => by have := hg (last + 1) (by omega) h; cases this
    show n = _
    omega
  | e :: es, n, last, hs, ht, hl, hg => by
    rw [List.foldl_cons]
    rw [List.pairwise_cons] at hs
    obtain ⟨h1, h2⟩ := hs
    have hle := h1 e (List.mem_cons_self ..)
    have hto := ht e (List.mem_cons_self ..)
    have hse := (List.pairwise_cons.1 h2).1
    by_cases e1 : e = o
    · rw [show epStep o (n, last) e = (n, last) from if_neg fun hc => hc.1 e1]
      have hall : ∀ x ∈ es, x = o := fun x hx => by have := hse x hx; have := ht x (List.mem_cons_of_mem _ hx); omega
      rw [epF_open o es _ hall]
      have : ¬ last + 1 < o := fun h => by
        rcases List.mem_cons.1 (hg (last + 1) (by omega) h) with h' | h'
        · omega
        · have := hall _ h'; omega
      show n = _
      omega
    · by_cases e2 : e = last
      · rw [show epStep o (n, last) e = (n, last) from if_neg fun hc => hc.2 e2]
        refine epF o es n last (List.pairwise_cons.2 ⟨fun x hx => h1 x (List.mem_cons_of_mem _ hx), (List.pairwise_cons.1 h2).2⟩) (fun x hx => ht x (List.mem_cons_of_mem _ hx)) hl fun x hx1 hx2 => ?_
        rcases List.mem_cons.1 (hg x hx1 hx2) with h' | h'
        · omega
        · exact h'
      · rw [show epStep o (n, last) e = (n + 1, e) from if_pos ⟨e1, e2⟩]
        have h3 : e = last + 1 := by
          rcases List.mem_cons.1 (hg (last + 1) (by omega) (by omega)) with h' | h'
          · omega
          · have := hse _ h'; omega
        rw [epF o es (n + 1) e h2 (fun x hx => ht x (List.mem_cons_of_mem _ hx)) (by omega) fun x hx1 hx2 => by
          rcases List.mem_cons.1 (hg x (by omega) hx2) with h' | h'
          · omega
          · exact h']
        omega
theorem Sim.epochs {s : LogS} {r : RefT} (h : Sim s r) : (epS r.now r.lines).1 = (match s.ws with | [] => 0 | x :: _ => s.opn - x.ep) := by
  have e0 : (r.lines.map fun x => x.2.2.1) = s.ws.map fun x => x.ep := by rw [h.lines, List.map_map]; rfl
  unfold epS
  rw [e0, h.now]
  have ho := h.ord
  have ht := h.top
  have hg := h.gap
  cases hw : s.ws with
  | nil => rfl
  | cons x l =>
    rw [hw] at ho ht hg
    have hx := ht x (List.mem_cons_self ..)
    have ho' := List.pairwise_cons.1 ho
    rw [List.map_cons, List.foldl_cons]
    by_cases e1 : x.ep = s.opn
    · rw [show epStep s.opn (0, 0) x.ep = (0, 0) from if_neg fun hc => hc.1 e1]
      rw [epF_open s.opn _ _ fun e he => by
        obtain ⟨y, hy, rfl⟩ := List.mem_map.1 he
        have := ho'.1 y hy
        have := ht y (List.mem_cons_of_mem _ hy)
        omega]
      show (0 : Int) = _
      dsimp only
      omega
    · rw [show epStep s.opn (0, 0) x.ep = (1, x.ep) from if_pos ⟨e1, by show x.ep ≠ 0; omega⟩]
      rw [epF s.opn (l.map fun y => y.ep) 1 x.ep ?_ ?_ (by omega) ?_]
      · dsimp only; omega
      · rw [← List.map_cons (f := fun (y : Wr) => y.ep)]
        exact List.pairwise_map.2 ho
      · intro e he
        obtain ⟨y, hy, rfl⟩ := List.mem_map.1 he
        exact (ht y (List.mem_cons_of_mem _ hy)).2
      · intro e h1 h2
        obtain ⟨y, hy, rfl⟩ := hg x (List.mem_cons_self ..) e (by omega) h2
        rcases List.mem_cons.1 hy with rfl | hy
        · omega
        · exact List.mem_map_of_mem hy
/-- what the document's Settled answers -/
def setR (l : List Ln) (ep : Int) : Bool := l.all fun x => !decide (x.2.2.1 ≤ ep)
theorem Sim.settled {s : LogS} {r : RefT} (h : Sim s r) (ep : Int) : setR r.lines ep = (match s.ws with | [] => true | x :: _ => decide (x.ep > ep)) := by
  unfold setR
  rw [h.lines, List.all_map]
  have ho := h.ord
  cases hw : s.ws with
  | nil => rfl
  | cons x l =>
    rw [hw] at ho
    have ho' := (List.pairwise_cons.1 ho).1
    rw [Bool.eq_iff_iff]
    simp only [List.all_eq_true, List.mem_cons, decide_eq_true_eq, Function.comp, lnOf, Bool.not_eq_true', decide_eq_false_iff_not]
    constructor
    · intro h1
      have h2 : ¬ x.ep ≤ ep := of_decide_eq_false (h1 x (.inl rfl))
      omega
    · rintro h1 y (rfl | hy)
      · refine decide_eq_false (?_ : ¬ y.ep ≤ ep)
        omega
      · refine decide_eq_false (?_ : ¬ y.ep ≤ ep)
        have := ho' y hy
        omega
/-- what the document's Unacked gives -/
def rUnO (r : RefT) : List (Int × Int × Int) := (r.lines.filter fun x => !x.2.2.2).map entOf
theorem Sim.unacked {s : LogS} {r : RefT} (h : Sim s r) : rUnO r = (unA s.ws).map entW := by
  unfold rUnO unA
  rw [h.lines, List.filter_map, List.map_map]
  rfl
theorem rUnO_take {l : List Ln} {k : Nat} {x : Ln} (hx : l[k]? = some x) : ((l.take (k + 1)).filter fun x => !x.2.2.2).map entOf = ((l.take k).filter fun x => !x.2.2.2).map entOf ++ (if x.2.2.2 then [] else [entOf x]) := by
  rw [List.take_add_one, hx, Option.toList_some, List.filter_append, List.map_append]
  cases h : x.2.2.2 <;> simp [h]
end Go.Proofs.Ytagkhhoimgighaa
