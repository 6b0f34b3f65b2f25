/- The book of TlogOrder: the log, and the list of what was put in, entry by entry. No program's walk is in sight. -/
import Derived.Test.YtagkhhoimgighaaSetBk
import Derived.Test.YtagkhhoimgighaaLawT2
namespace Go.Proofs.Ytagkhhoimgighaa
open Go.RowKit

def ent (x : Wr) : Ent3 := (x.id, x.blk, x.ep)
theorem ent_enc (x : Wr) : encE (ent x) = encW x := rfl
theorem ent_ack (id : Int) (x : Wr) : ent (ackW id x) = ent x := by unfold ackW; split <;> rfl
theorem rds_ent {w : World} {A : Option Addr} {l : List Wr} (h : RdS encW 3 w A l) : RdS encE 3 w A (l.map ent) := fun i x hx => by
  rw [List.getElem?_map] at hx
  obtain ⟨y, hy, rfl⟩ := Option.map_eq_some_iff.1 hx
  exact h i y hy
theorem RdS.take {α : Type} {enc : α → List Value} {sz : Nat} {w : World} {A : Option Addr} {l : List α} (h : RdS enc sz w A l) (k : Nat) : RdS enc sz w A (l.take k) := fun i x hx => by
  rw [List.getElem?_take] at hx
  split at hx
  · exact h i x hx
  · cases hx
structure OBk (base G : Nat) (w0 wr : World) (limit width : Int) (k nx op turn : Nat) (cs : List Nat) (ws : List Wr) (F : Nat → Nat → Prop) (A : Option Addr) (c : Nat) : Prop where
  bel : Below base w0 wr
  bs : base ≤ wr.heap.size
  log : LogAt wr G ⟨limit, width, (nx : Int) + cs.length, op, turn, ws⟩ F
  inn : GSl encE 3 36 wr A c (ws.map ent)
  fF : ∀ k i, F k i → base ≤ k
  fI : ∀ k i, slFp 3 A 0 c k i → base ≤ k ∧ ¬ F k i
  lay : ws.map (·.ep) = layers nx cs ++ List.replicate op ((nx : Int) + cs.length)
  pos : ∀ n ∈ cs, 0 < n
  f1 : (op : Int) ≤ width
  l1 : (ws.length : Int) ≤ limit
  t1 : turn ≤ k
  n1 : 1 ≤ nx
  s1 : nx + cs.length ≤ k + 1
section
variable {base G : Nat} {w0 wr w' : World} {limit width : Int} {k nx op turn : Nat} {cs : List Nat} {ws : List Wr} {F : Nat → Nat → Prop} {A : Option Addr} {c : Nat}
theorem OBk.next (h : OBk base G w0 wr limit width k nx op turn cs ws F A c) : OBk base G w0 wr limit width (k + 1) nx op turn cs ws F A c :=
  ⟨h.bel, h.bs, h.log, h.inn, h.fF, h.fI, h.lay, h.pos, h.f1, h.l1, Nat.le_succ_of_le h.t1, h.n1, Nat.le_succ_of_le h.s1⟩
theorem OBk.move (h : OBk base G w0 wr limit width k nx op turn cs ws F A c) (hc : Chg (fun k _ => wr.heap.size ≤ k) wr w') : OBk base G w0 w' limit width k nx op turn cs ws F A c :=
  ⟨h.bel.trans (hc.below h.bs fun j i hj hle => by have := h.bs; omega), Nat.le_trans h.bs hc.size, h.log.chg hc fun j i hj hle => by have := h.log.fp_lt hj; omega,
   h.inn.chg hc encE_len fun j i hj hle => by have := h.inn.fp_lt hj; omega, h.fF, h.fI, h.lay, h.pos, h.f1, h.l1, h.t1, h.n1, h.s1⟩
/-- cells of another block turn -/
theorem OBk.move1 {g : Nat} (h : OBk base G w0 wr limit width k nx op turn cs ws F A c) (hc : Chg (fun k _ => k = g ∨ wr.heap.size ≤ k) wr w') (hg : base ≤ g) (hF : ∀ i, ¬ F g i) (hA : ∀ i, ¬ slFp 3 A 0 c g i) : OBk base G w0 w' limit width k nx op turn cs ws F A c := by
  refine ⟨h.bel.trans (hc.below h.bs fun j i hj hle => by have := h.bs; omega), Nat.le_trans h.bs hc.size, h.log.chg hc fun j i hj hle => ?_,
   h.inn.chg hc encE_len fun j i hj hle => ?_, h.fF, h.fI, h.lay, h.pos, h.f1, h.l1, h.t1, h.n1, h.s1⟩
  · rcases hle with e | e
    · subst e; exact hF i hj
    · have := h.log.fp_lt hj; omega
  · rcases hle with e | e
    · subst e; exact hA i (slFp_le hj h.inn.le)
    · have := h.inn.fp_lt hj; omega
theorem OBk.drewN (h : OBk base G w0 wr limit width k nx op turn cs ws F A c) (m : Nat) : OBk base G w0 (wr.drewN m) limit width k nx op turn cs ws F A c := h.move ((Chg.refl _ wr).drewN m)
theorem OBk.turned (h : OBk base G w0 wr limit width k nx op turn cs ws F A c) (hc : Chg F wr w') : Below base w0 w' ∧ base ≤ w'.heap.size ∧ GSl encE 3 36 w' A c (ws.map ent) :=
  ⟨h.bel.trans (hc.below h.bs fun j i hj hF => by have := h.fF j i hF; omega), Nat.le_trans h.bs hc.size, h.inn.chg hc encE_len fun j i hj hF => (h.fI j i (slFp_le hj h.inn.le)).2 hF⟩
theorem OBk.added {F' : Nat → Nat → Prop} {w2 w3 w4 : World} {A' : Option Addr} {c' g : Nat} {id blk : Int} (h : OBk base G w0 wr limit width k nx op turn cs ws F A c) (L : LogAt w2 G (addS ⟨limit, width, (nx : Int) + cs.length, op, turn, ws⟩ id blk g) F')
    (kc : Chg F wr w2) (hf' : ∀ k i, F' k i → F k i ∨ wr.heap.size ≤ k) (kR : Chg (fun k _ => w2.heap.size ≤ k) w2 w3) (k4 : Chg (slFp 3 A (ws.map ent).length c) w3 w4) (a : GSl encE 3 36 w4 A' c' (ws.map ent ++ [(id, blk, (nx : Int) + cs.length)]))
    (q4 : (A' = A ∧ c' = c) ∨ ∃ g, A' = some ⟨g, 0, none⟩ ∧ w3.heap.size ≤ g) (hl : (ws.length : Int) < limit) (hw : (op : Int) < width) :
    ∃ ws', ws'.map ent = ws.map ent ++ [(id, blk, (nx : Int) + cs.length)] ∧ OBk base G w0 w4 limit width (k + 1) nx (op + 1) (turn + 1) cs ws' F' A' c' := by
  obtain ⟨t1, t2, t3⟩ := h.turned kc
  have hlt : ∀ j i, slFp 3 A (ws.map ent).length c j i → slFp 3 A 0 c j i := fun j i hj => slFp_zero hj
  have hne : ∀ j i, slFp 3 A 0 c j i → ¬ F' j i := fun j i hj hf => by
    rcases hf' j i hf with h1 | h1
    · exact (h.fI j i hj).2 h1
    · have := h.inn.fp_lt hj; omega
  have L : LogAt w2 G ⟨limit, width, (nx : Int) + cs.length, ((op + 1 : Nat) : Int), turn + 1, ws ++ [⟨id, blk, (nx : Int) + cs.length, turn + 1, false, g⟩]⟩ F' := L
  refine ⟨ws ++ [⟨id, blk, (nx : Int) + cs.length, turn + 1, false, g⟩], by rw [List.map_append]; rfl, (t1.trans (kR.below t2 fun j i hj hle => by omega)).trans (k4.below (Nat.le_trans t2 kR.size) fun j i hj hs => by have := (h.fI j i (hlt j i hs)).1; omega), Nat.le_trans (Nat.le_trans t2 kR.size) k4.size,
    (L.chg kR fun j i hj hle => by have := L.fp_lt hj; omega).chg k4 fun j i hj hs => hne j i (hlt j i hs) hj, by rw [List.map_append]; exact a, fun j i hj => ?_, fun j i hj => ?_, ?_, h.pos, by omega, by simp; omega, by have := h.t1; omega, h.n1, Nat.le_succ_of_le h.s1⟩
  · rcases hf' j i hj with h1 | h1
    · exact h.fF j i h1
    · have := h.bs; omega
  · rcases q4 with ⟨rfl, rfl⟩ | ⟨g', rfl, hg'⟩
    · exact ⟨(h.fI j i hj).1, hne j i hj⟩
    · obtain ⟨o, ho, _⟩ := hj
      cases ho
      have hs := kR.size
      exact ⟨by omega, fun hf => by have := L.fp_lt hf; omega⟩
  · rw [List.map_append, h.lay, List.replicate_succ', List.append_assoc]; rfl
theorem OBk.closed (h : OBk base G w0 wr limit width k nx op turn cs ws F A c) (L : LogAt w' G (closeS ⟨limit, width, (nx : Int) + cs.length, op, turn, ws⟩) F) (hc : Chg F wr w') : ∃ op' cs', OBk base G w0 w' limit width (k + 1) nx op' turn cs' ws F A c := by
  obtain ⟨t1, t2, t3⟩ := h.turned hc
  have hs1 := h.s1
  unfold closeS at L
  rcases Nat.eq_zero_or_pos op with h0 | h0
  · subst h0
    exact ⟨0, cs, t1, t2, L, t3, h.fF, h.fI, h.lay, h.pos, h.f1, h.l1, Nat.le_succ_of_le h.t1, h.n1, Nat.le_succ_of_le h.s1⟩
  · rw [if_neg (by show ¬ (op : Int) = 0; omega)] at L
    have L : LogAt w' G ⟨limit, width, (nx : Int) + ((cs ++ [op]).length : Nat), ((0 : Nat) : Int), turn, ws⟩ F := by
      rw [List.length_append, List.length_singleton, show (nx : Int) + ((cs.length + 1 : Nat) : Int) = (nx : Int) + cs.length + 1 from by omega]
      exact L
    refine ⟨0, cs ++ [op], t1, t2, L, t3, h.fF, h.fI, ?_, ?_, by have := h.f1; omega, h.l1, Nat.le_succ_of_le h.t1, h.n1, by rw [List.length_append, List.length_singleton]; omega⟩
    · rw [h.lay, layers_snoc, List.replicate_zero, List.append_nil]
    · intro n hn
      rcases List.mem_append.1 hn with hn | hn
      · exact h.pos n hn
      · obtain rfl := List.mem_singleton.1 hn; exact h0
theorem OBk.acked {id : Int} (h : OBk base G w0 wr limit width k nx op turn cs ws F A c) (L : LogAt w' G (ackT ⟨limit, width, (nx : Int) + cs.length, op, turn, ws⟩ id) F) (hc : Chg F wr w') : ∃ ws', ws'.map ent = ws.map ent ∧ OBk base G w0 w' limit width (k + 1) nx op turn cs ws' F A c := by
  obtain ⟨t1, t2, t3⟩ := h.turned hc
  unfold ackT at L
  split at L
  · have e : (ws.map (ackW id)).map ent = ws.map ent := by rw [List.map_map]; exact List.map_congr_left fun x _ => ent_ack id x
    refine ⟨ws.map (ackW id), e, t1, t2, L, by rw [e]; exact t3, h.fF, h.fI, ?_, h.pos, h.f1, by rw [List.length_map]; exact h.l1, Nat.le_succ_of_le h.t1, h.n1, Nat.le_succ_of_le h.s1⟩
    rw [List.map_map, ← h.lay]
    exact List.map_congr_left fun x _ => ackW_ep id x
  · exact ⟨ws, rfl, t1, t2, L, t3, h.fF, h.fI, h.lay, h.pos, h.f1, h.l1, Nat.le_succ_of_le h.t1, h.n1, Nat.le_succ_of_le h.s1⟩
theorem OBk.failed {F' : Nat → Nat → Prop} (h : OBk base G w0 wr limit width k nx op turn cs ws F A c) (L : LogAt w' G (failS ⟨limit, width, (nx : Int) + cs.length, op, turn, ws⟩) F') (hc : Chg F wr w') (hF : ∀ k i, F' k i → F k i) (hw : 0 ≤ width) (hl : 0 ≤ limit) :
    OBk base G w0 w' limit width (k + 1) 1 0 turn [] [] F' none 0 := by
  obtain ⟨t1, t2, t3⟩ := h.turned hc
  exact ⟨t1, t2, L, GSl.nil_, fun j i hj => h.fF j i (hF j i hj), (fun j i ⟨o, ho, _⟩ => by cases ho), rfl, (fun n hn => by cases hn), by omega, by simpa using hl, Nat.le_succ_of_le h.t1, Nat.le_refl _, by simp⟩
/-- what a barrier that is taken takes -/
theorem OBk.bar {a b : Int} (h : OBk base G w0 wr limit width k nx op turn cs ws F A c) (hb : barOk ⟨limit, width, (nx : Int) + cs.length, op, turn, ws⟩ a b) :
    ∃ m cs', cs = m :: cs' ∧ a = nx ∧ b = (m : Int) ∧ oldE (ws.map ent) = nx ∧ oldN (ws.map ent) = m ∧ lead ws nx = m ∧ m ≤ ws.length := by
  obtain ⟨x, xs, hw, e1, e2, e3⟩ := hb
  dsimp only at hw e1 e3
  have hlay := h.lay
  have hE : oldE (ws.map ent) = x.ep := by rw [hw]; rfl
  have hN : oldN (ws.map ent) = ((ws.map (·.ep)).filter fun y => y == x.ep).length := by
    unfold oldN
    rw [hE, List.filter_map, List.filter_map, List.length_map, List.length_map]
    rfl
  cases hcs : cs with
  | nil =>
    rw [hcs, hw] at hlay
    rw [hcs] at e1
    simp only [layers, List.nil_append, List.map_cons] at hlay
    cases op with
    | zero => cases hlay
    | succ op => rw [List.replicate_succ] at hlay; exact absurd (List.cons.inj hlay).1 e1
  | cons m cs' =>
    have hp := h.pos m (by rw [hcs]; exact List.mem_cons_self ..)
    have hln : cs.length = cs'.length + 1 := by rw [hcs]; rfl
    rw [hcs, layers, List.append_assoc, ← hcs] at hlay
    have hx : x.ep = nx := by
      rw [hw, List.map_cons] at hlay
      obtain ⟨q, rfl⟩ : ∃ q, m = q + 1 := ⟨m - 1, by omega⟩
      rw [List.replicate_succ, List.cons_append] at hlay
      exact (List.cons.inj hlay).1
    have hr : ∀ y ∈ layers ((nx : Int) + 1) cs' ++ List.replicate op ((nx : Int) + cs.length), y ≠ (nx : Int) := by
      intro y hy
      rcases List.mem_append.1 hy with hy | hy
      · have := layers_ge hy; omega
      · rw [List.eq_of_mem_replicate hy]; omega
    have hlead : lead ws nx = m := by rw [lead_map, hlay, take_reps _ _ _ hr, List.length_replicate]
    refine ⟨m, cs', rfl, by rw [← e2, hx], ?_, by rw [hE, hx], ?_, hlead, by rw [← hlead]; exact lead_le _ _⟩
    · rw [← e2, hx, hlead] at e3; exact e3.symm
    · rw [hN, hx, hlay, List.filter_append, List.length_append]
      have h1 : (List.replicate m (nx : Int)).filter (fun y => y == (nx : Int)) = List.replicate m (nx : Int) := List.filter_eq_self.2 fun y hy => by rw [List.eq_of_mem_replicate hy]; simp
      have h2 : (layers ((nx : Int) + 1) cs' ++ List.replicate op ((nx : Int) + cs.length)).filter (fun y => y == (nx : Int)) = [] := List.filter_eq_nil_iff.2 fun y hy => by simpa using hr y hy
      rw [h1, h2, List.length_replicate, List.length_nil, Nat.add_zero]
theorem OBk.left {F' : Nat → Nat → Prop} {m : Nat} {cs' : List Nat} (h : OBk base G w0 wr limit width k nx op turn (m :: cs') ws F A c) (L : LogAt w' G ⟨limit, width, (nx : Int) + (m :: cs').length, op, turn, ws.drop m⟩ F') (hc : Chg F wr w') (hF : ∀ k i, F' k i → F k i) (hN : m ≤ ws.length) :
    OBk base G w0 w' limit width (k + 1) (nx + 1) op turn cs' (ws.drop m) F' (if c = m then A else A.map (·.add (m * 3))) (c - m) := by
  obtain ⟨t1, t2, t3⟩ := h.turned hc
  have hle := h.inn.le
  have hlay := h.lay
  have hs1 := h.s1
  rw [List.length_map] at hle
  rw [layers, List.append_assoc] at hlay
  simp only [List.length_cons] at L hlay hs1
  have e : (nx : Int) + ((cs'.length + 1 : Nat) : Int) = ((nx + 1 : Nat) : Int) + cs'.length := by omega
  rw [e] at L hlay
  refine ⟨t1, t2, L, by rw [List.map_drop]; exact t3.drop m (by rw [List.length_map]; exact hN), fun j i hj => h.fF j i (hF j i hj), fun j i hj => ?_, ?_, fun n hn => h.pos n (List.mem_cons_of_mem _ hn), h.f1, by have := h.l1; rw [List.length_drop]; omega, Nat.le_succ_of_le h.t1, by have := h.n1; omega, by omega⟩
  · have hj' : slFp 3 A 0 c j i := by
      by_cases e : c = m
      · rw [if_pos e] at hj
        exact slFp_le hj (by omega)
      · rw [if_neg e] at hj
        obtain ⟨o, ho, h1, h2⟩ := hj
        cases A with
        | none => cases ho
        | some a =>
          rcases h.inn with ⟨h, _⟩ | ⟨g, o', cs, ha, _⟩
          · cases h
          · cases ha
            simp only [Option.map_some, add_lit_, Option.some.injEq, Addr.mk.injEq] at ho
            obtain ⟨rfl, rfl, _⟩ := ho
            exact ⟨o', rfl, by omega, by rw [Nat.sub_mul] at h2; have : m * 3 ≤ c * 3 := Nat.mul_le_mul_right _ (by omega); omega⟩
    exact ⟨(h.fI j i hj').1, fun hf => (h.fI j i hj').2 (hF j i hf)⟩
  · rw [List.map_drop, hlay, List.drop_left' (by simp)]
    rw [show ((nx + 1 : Nat) : Int) = (nx : Int) + 1 from by omega]
end
end Go.Proofs.Ytagkhhoimgighaa
