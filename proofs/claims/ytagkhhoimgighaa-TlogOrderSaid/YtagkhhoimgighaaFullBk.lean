/- The book of TlogFull: the log and the list of what was put in, side by side in memory. No program's walk is in sight. -/
import Derived.Test.YtagkhhoimgighaaLawT
namespace Go.Proofs.Ytagkhhoimgighaa
open Go.RowKit

structure Bk (base G : Nat) (w0 wr : World) (limit width : Int) (k : Nat) (opn filled : Int) (turn : Nat) (ws : List Wr) (F : Nat → Nat → Prop) (A : Option Addr) (c : Nat) (es : List Ent3) : Prop where
  bel : Below base w0 wr
  bs : base ≤ wr.heap.size
  log : LogAt wr G ⟨limit, width, opn, filled, turn, ws⟩ F
  inn : GSl encE 3 36 wr A c es
  ids : es.map (·.1) = ws.map (·.id)
  fF : ∀ k i, F k i → base ≤ k
  fI : ∀ k i, slFp 3 A 0 c k i → base ≤ k ∧ ¬ F k i
  f0 : 0 ≤ filled
  f1 : filled ≤ width
  l1 : (ws.length : Int) ≤ limit
  t1 : turn ≤ k
  o1 : 1 ≤ opn
  o2 : opn ≤ k + 1
  ep : ∀ x ∈ ws, 1 ≤ x.ep ∧ x.ep ≤ opn
section
variable {base G : Nat} {w0 wr w' : World} {limit width : Int} {k : Nat} {opn filled : Int} {turn : Nat} {ws : List Wr} {F : Nat → Nat → Prop} {A : Option Addr} {c : Nat} {es : List Ent3}
theorem GSl.fp_lt {α : Type} {enc : α → List Value} {sz : Nat} {e : TypeId} {w : World} {A : Option Addr} {c : Nat} {l : List α} (h : GSl enc sz e w A c l) {a b k i : Nat} (hs : slFp sz A a b k i) : k < w.heap.size := by
  obtain ⟨o, ho, _⟩ := hs
  rcases h with ⟨rfl, _⟩ | ⟨g, o', cs, rfl, _, _, hb, _⟩
  · cases ho
  · cases ho; exact Chg.lt hb
theorem slFp_le {sz : Nat} {A : Option Addr} {a b c k i : Nat} (h : slFp sz A a b k i) (hb : b ≤ c) : slFp sz A 0 c k i := by
  obtain ⟨o, h1, h2, h3⟩ := h
  exact ⟨o, h1, by omega, by have := Nat.mul_le_mul_right sz hb; omega⟩
theorem Bk.len (h : Bk base G w0 wr limit width k opn filled turn ws F A c es) : es.length = ws.length := by
  have := congrArg List.length h.ids
  simpa using this
theorem Bk.next (h : Bk base G w0 wr limit width k opn filled turn ws F A c es) : Bk base G w0 wr limit width (k + 1) opn filled turn ws F A c es :=
  ⟨h.bel, h.bs, h.log, h.inn, h.ids, h.fF, h.fI, h.f0, h.f1, h.l1, Nat.le_succ_of_le h.t1, h.o1, by have := h.o2; omega, h.ep⟩
theorem Bk.move (h : Bk base G w0 wr limit width k opn filled turn ws F A c es) (hc : Chg (fun k _ => wr.heap.size ≤ k) wr w') : Bk base G w0 w' limit width k opn filled turn ws F A c es :=
  ⟨h.bel.trans (hc.below h.bs fun j i hj hle => by have := h.bs; omega), Nat.le_trans h.bs hc.size, h.log.chg hc fun j i hj hle => by have := h.log.fp_lt hj; omega,
   h.inn.chg hc encE_len fun j i hj hle => by have := h.inn.fp_lt hj; omega, h.ids, h.fF, h.fI, h.f0, h.f1, h.l1, h.t1, h.o1, h.o2, h.ep⟩
theorem Bk.drewN (h : Bk base G w0 wr limit width k opn filled turn ws F A c es) (m : Nat) : Bk base G w0 (wr.drewN m) limit width k opn filled turn ws F A c es := h.move ((Chg.refl _ wr).drewN m)
/-- the log has turned, the list has not -/
theorem Bk.turned (h : Bk base G w0 wr limit width k opn filled turn ws F A c es) (hc : Chg F wr w') : Below base w0 w' ∧ base ≤ w'.heap.size ∧ GSl encE 3 36 w' A c es :=
  ⟨h.bel.trans (hc.below h.bs fun j i hj hF => by have := h.fF j i hF; omega), Nat.le_trans h.bs hc.size, h.inn.chg hc encE_len fun j i hj hF => (h.fI j i (slFp_le hj h.inn.le)).2 hF⟩
theorem Bk.closed (h : Bk base G w0 wr limit width k opn filled turn ws F A c es) (L : LogAt w' G (closeS ⟨limit, width, opn, filled, turn, ws⟩) F) (hc : Chg F wr w') : ∃ opn', Bk base G w0 w' limit width (k + 1) opn' 0 turn ws F A c es := by
  obtain ⟨t1, t2, t3⟩ := h.turned hc
  unfold closeS at L
  have := h.o1
  have := h.o2
  by_cases h0 : filled = 0
  · subst h0
    exact ⟨opn, t1, t2, L, t3, h.ids, h.fF, h.fI, by omega, h.f1, h.l1, Nat.le_succ_of_le h.t1, by omega, by omega, h.ep⟩
  · rw [if_neg h0] at L
    exact ⟨opn + 1, t1, t2, L, t3, h.ids, h.fF, h.fI, by omega, Int.le_trans h.f0 h.f1, h.l1, Nat.le_succ_of_le h.t1, by omega, by omega, fun x hx => by have := h.ep x hx; omega⟩
theorem Bk.failed {F' : Nat → Nat → Prop} (h : Bk base G w0 wr limit width k opn filled turn ws F A c es) (L : LogAt w' G (failS ⟨limit, width, opn, filled, turn, ws⟩) F') (hc : Chg F wr w') (hF : ∀ k i, F' k i → F k i) :
    Bk base G w0 w' limit width (k + 1) 1 0 turn [] F' none 0 [] := by
  obtain ⟨t1, t2, t3⟩ := h.turned hc
  have := h.l1
  exact ⟨t1, t2, L, GSl.nil_, rfl, fun j i hj => h.fF j i (hF j i hj), (fun j i ⟨o, ho, _⟩ => by cases ho), by omega, Int.le_trans h.f0 h.f1, by simp only [List.length_nil]; omega, Nat.le_succ_of_le h.t1, by omega, by omega, (fun x hx => by cases hx)⟩
theorem Bk.left {F' : Nat → Nat → Prop} {N : Nat} (h : Bk base G w0 wr limit width k opn filled turn ws F A c es) (L : LogAt w' G ⟨limit, width, opn, filled, turn, ws.drop N⟩ F') (hc : Chg F wr w') (hF : ∀ k i, F' k i → F k i) (hN : N ≤ ws.length) :
    Bk base G w0 w' limit width k opn filled turn (ws.drop N) F' (if c = N then A else A.map (·.add (N * 3))) (c - N) (es.drop N) := by
  obtain ⟨t1, t2, t3⟩ := h.turned hc
  have hle := h.inn.le
  have hlen := h.len
  refine ⟨t1, t2, L, t3.drop N (by omega), by rw [List.map_drop, List.map_drop, h.ids], fun j i hj => h.fF j i (hF j i hj), fun j i hj => ?_, h.f0, h.f1, by have := h.l1; rw [List.length_drop]; omega, h.t1, h.o1, h.o2, fun x hx => h.ep x (List.mem_of_mem_drop hx)⟩
  have hj' : slFp 3 A 0 c j i := by
    by_cases e : c = N
    · rw [if_pos e] at hj
      exact slFp_le hj (by omega)
    · rw [if_neg e] at hj
      obtain ⟨o, ho, h1, h2⟩ := hj
      cases A with
      | none => cases ho
      | some a =>
        rcases h.inn with ⟨h, _⟩ | ⟨g, o', cs, ha, _⟩
        · cases h
        · cases ha
          simp only [Option.map_some, add_lit_, Option.some.injEq, Addr.mk.injEq] at ho
          obtain ⟨rfl, rfl, _⟩ := ho
          exact ⟨o', rfl, by omega, by rw [Nat.sub_mul] at h2; have : N * 3 ≤ c * 3 := Nat.mul_le_mul_right _ (by omega); omega⟩
  exact ⟨(h.fI j i hj').1, fun hf => (h.fI j i hj').2 (hF j i hf)⟩
theorem Bk.added {F' : Nat → Nat → Prop} {w1 w2 w3 w4 : World} {A' : Option Addr} {c' g : Nat} {id blk : Int} (h : Bk base G w0 w1 limit width k opn filled turn ws F A c es) (L : LogAt w2 G (addS ⟨limit, width, opn, filled, turn, ws⟩ id blk g) F')
    (kc : Chg F w1 w2) (hf' : ∀ k i, F' k i → F k i ∨ w1.heap.size ≤ k) (kR : Chg (fun k _ => w2.heap.size ≤ k) w2 w3) (k4 : Chg (slFp 3 A es.length c) w3 w4) (a : GSl encE 3 36 w4 A' c' (es ++ [(id, 0, 0)]))
    (q4 : (A' = A ∧ c' = c) ∨ ∃ g, A' = some ⟨g, 0, none⟩ ∧ w3.heap.size ≤ g) (hl : (ws.length : Int) < limit) (hw : filled < width) :
    ∃ ws', Bk base G w0 w4 limit width (k + 1) opn (filled + 1) (turn + 1) ws' F' A' c' (es ++ [(id, 0, 0)]) := by
  obtain ⟨t1, t2, t3⟩ := h.turned kc
  have hle := h.inn.le
  have hlt : ∀ j i, slFp 3 A es.length c j i → slFp 3 A 0 c j i := fun j i hj => slFp_zero hj
  have hne : ∀ j i, slFp 3 A 0 c j i → ¬ F' j i := fun j i hj hf => by
    rcases hf' j i hf with h1 | h1
    · exact (h.fI j i hj).2 h1
    · have := h.inn.fp_lt hj; omega
  have L : LogAt w2 G ⟨limit, width, opn, filled + 1, turn + 1, ws ++ [⟨id, blk, opn, turn + 1, false, g⟩]⟩ F' := L
  refine ⟨ws ++ [⟨id, blk, opn, turn + 1, false, g⟩], (t1.trans (kR.below t2 fun j i hj hle => by omega)).trans (k4.below (Nat.le_trans t2 kR.size) fun j i hj hs => by have := (h.fI j i (hlt j i hs)).1; omega), Nat.le_trans (Nat.le_trans t2 kR.size) k4.size,
    (L.chg kR fun j i hj hle => by have := L.fp_lt hj; omega).chg k4 fun j i hj hs => hne j i (hlt j i hs) hj, a, by simp [h.ids], fun j i hj => ?_, fun j i hj => ?_, by have := h.f0; omega, by omega, by simp; omega, by have := h.t1; omega, h.o1, by have := h.o2; omega, fun x hx => ?_⟩
  · rcases hf' j i hj with h1 | h1
    · exact h.fF j i h1
    · have := h.bs; omega
  · rcases q4 with ⟨rfl, rfl⟩ | ⟨g', rfl, hg'⟩
    · exact ⟨(h.fI j i hj).1, hne j i hj⟩
    · obtain ⟨o, ho, _⟩ := hj
      cases ho
      have hs := kR.size
      exact ⟨by omega, fun hf => by have := L.fp_lt hf; omega⟩
  · rcases List.mem_append.1 hx with hx | hx
    · exact h.ep x hx
    · obtain rfl := List.mem_singleton.1 hx
      exact ⟨h.o1, Int.le_refl _⟩
end
end Go.Proofs.Ytagkhhoimgighaa
