/- TlogAcks: the plain laws and the book. No walk. -/
import Derived.Test.YtagkhhoimgighaaTlUa
import Derived.Test.YtagkhhoimgighaaTlSim
import Derived.Test.YtagkhhoimgighaaLawT2
namespace Go.Proofs.Ytagkhhoimgighaa
open Go.RowKit
set_option linter.unusedVariables false
set_option linter.unusedSimpArgs false

theorem unA_add (s : LogS) (id blk : Int) (g : Nat) : unA (addS s id blk g).ws = unA s.ws ++ [⟨id, blk, s.opn, s.turn + 1, false, g⟩] := by
  show (s.ws ++ [_]).filter _ = _
  rw [List.filter_append]
  rfl
theorem unA_ackW (l : List Wr) (id : Int) : unA (l.map (ackW id)) = (unA l).filter fun x => !(x.id == id) := by
  induction l with
  | nil => rfl
  | cons y l ih =>
    have ih' : (l.map (ackW id)).filter (fun x => !x.acked) = (l.filter fun x => !x.acked).filter fun x => !(x.id == id) := ih
    show (ackW id y :: l.map (ackW id)).filter _ = _
    by_cases e : y.id = id
    · have h1 : (ackW id y).acked = true := by unfold ackW; rw [if_pos e]
      rw [List.filter_cons_of_neg (by simp [h1]), ih']
      show _ = ((y :: l).filter fun x => !x.acked).filter _
      by_cases ha : y.acked = true
      · rw [List.filter_cons_of_neg (by simp [ha])]
      · rw [List.filter_cons_of_pos (by simp [ha]), List.filter_cons_of_neg (by simp [e])]
    · have h1 : ackW id y = y := by unfold ackW; rw [if_neg e]
      rw [h1]
      show _ = ((y :: l).filter fun x => !x.acked).filter _
      by_cases ha : y.acked = true
      · rw [List.filter_cons_of_neg (by simp [ha]), List.filter_cons_of_neg (by simp [ha]), ih']
      · rw [List.filter_cons_of_pos (by simp [ha]), List.filter_cons_of_pos (by simp [ha]), List.filter_cons_of_pos (by simp [e]), ih']
theorem findO_at {l : List Wr} (hd : l.Pairwise fun x y => x.id ≠ y.id) {x : Wr} (hx : x ∈ l) : findO l x.id = some x := by
  cases h : findO l x.id with
  | none => exact absurd (List.find?_eq_none.1 h x hx) (by simp)
  | some y => obtain ⟨h1, h2⟩ := findO_some h; rw [pair_eq hd h1 hx h2]
theorem ack_found {s : LogS} (hd : s.ws.Pairwise fun x y => x.id ≠ y.id) {x : Wr} (hx : x ∈ unA s.ws) : ackR s x.id = 0 ∧ ackE s x.id = entW x := by
  have hx' := List.mem_filter.1 hx
  have ha : x.acked = false := by simpa using hx'.2
  unfold ackR ackE
  rw [findO_at hd hx'.1]
  simp [ha, entW]
theorem hasB_ws {l : List Wr} {id : Int} : hasB (l.map entW) id = (findO l id).isSome := by
  unfold hasB findO
  rw [List.any_map]
  induction l with
  | nil => rfl
  | cons y l ih =>
    rw [List.any_cons, List.find?_cons, ih]
    show ((y.id == id) || _) = _
    cases y.id == id <;> rfl
/-- what an Ack that finds nothing answers -/
theorem ack_lost {s : LogS} {id : Int} (h : ∀ x ∈ unA s.ws, x.id ≠ id) : (ackR s id = 102 ∧ hasB (s.ws.map entW) id = true ∨ ackR s id = 103 ∧ hasB (s.ws.map entW) id = false) := by
  rw [hasB_ws]
  unfold ackR
  cases hf : findO s.ws id with
  | none => exact .inr ⟨rfl, rfl⟩
  | some x =>
    obtain ⟨h1, h2⟩ := findO_some hf
    by_cases ha : x.acked = true
    · exact .inl ⟨by simp [ha], rfl⟩
    · exact absurd h2 (h x (List.mem_filter.2 ⟨h1, by simp [ha]⟩))
theorem unA_ack {s : LogS} (hd : s.ws.Pairwise fun x y => x.id ≠ y.id) (id : Int) : unA (ackT s id).ws = (unA s.ws).filter fun x => !(x.id == id) := by
  unfold ackT
  by_cases h0 : ackR s id = 0
  · rw [if_pos h0]; exact unA_ackW s.ws id
  · rw [if_neg h0]
    refine (List.filter_eq_self.2 fun x hx => ?_).symm
    have : x.id ≠ id := fun e => by subst e; exact h0 (ack_found hd hx).1
    simpa using this
theorem unA_left {l : List Wr} {e : Int} (ho : l.Pairwise fun x y => x.ep ≤ y.ep) (hm : ∀ x ∈ l, e ≤ x.ep) : unA (l.drop (lead l e)) = (unA l).filter fun x => !(x.ep == e) := by
  rw [← (lead_filter ho hm).2]
  show (l.filter _).filter _ = (l.filter _).filter _
  rw [List.filter_filter, List.filter_filter]
  exact List.filter_congr fun x _ => Bool.and_comm ..
theorem old_first {s : LogS} {r : RefT} (h : Sim s r) {x : Wr} {l : List Wr} (hw : s.ws = x :: l) : oldE (s.ws.map entW) = x.ep ∧ oldN (s.ws.map entW) = lead s.ws x.ep := by
  have h1 : oldE (s.ws.map entW) = x.ep := by rw [hw]; rfl
  refine ⟨h1, ?_⟩
  unfold oldN
  rw [h1, List.filter_map, List.length_map]
  show (s.ws.filter fun y => y.ep == x.ep).length = _
  rw [(lead_filter h.ord (h.min hw)).1, List.length_take, Nat.min_eq_left (lead_le _ _)]

/-- the log, the list of what was put in, the list of what waits -/
structure ABk (base G : Nat) (w0 wr : World) (k : Nat) (s : LogS) (r : RefT) (F : Nat → Nat → Prop) (A : Option Addr) (c : Nat) (B : Option Addr) (cB : Nat) : Prop where
  bel : Below base w0 wr
  bs : base ≤ wr.heap.size
  log : LogAt wr G s F
  sim : Sim s r
  inn : GSl encE 3 36 wr A c (s.ws.map entW)
  wai : GSl encE 3 36 wr B cB ((unA s.ws).map entW)
  fF : ∀ k i, F k i → base ≤ k
  fA : ∀ k i, slFp 3 A 0 c k i → base ≤ k ∧ ¬ F k i
  fB : ∀ k i, slFp 3 B 0 cB k i → base ≤ k ∧ ¬ F k i ∧ ¬ slFp 3 A 0 c k i
  lim : goodB s.limit s.width
  len : (s.ws.length : Int) ≤ s.limit
  turn : s.turn ≤ k
  opn : s.opn ≤ k + 1
  fil : s.filled ≤ s.width
section
variable {base G : Nat} {w0 wr w' w1 w2 w3 w4 w5 w6 : World} {k : Nat} {s s' : LogS} {r r' : RefT} {F F' : Nat → Nat → Prop} {A B A' B' : Option Addr} {c cB c' cB' : Nat}
theorem slFp_len {α : Type} {enc : α → List Value} {e : TypeId} {w : World} {sz : Nat} {A : Option Addr} {c : Nat} {l : List α} (h : GSl enc sz e w A c l) {g i : Nat} (hs : slFp sz A 0 l.length g i) : slFp sz A 0 c g i := by
  obtain ⟨o, ho, h1, h2⟩ := hs
  exact ⟨o, ho, h1, Nat.lt_of_lt_of_le h2 (by have := Nat.mul_le_mul_right sz h.le; omega)⟩
theorem slFp_lt {α : Type} {enc : α → List Value} {e : TypeId} {w : World} {sz : Nat} {A : Option Addr} {c : Nat} {l : List α} (h : GSl enc sz e w A c l) {g i : Nat} (hs : slFp sz A 0 c g i) : g < w.heap.size := by
  obtain ⟨o, ho, _⟩ := hs
  rcases h with ⟨rfl, _⟩ | ⟨g', o', cs, rfl, _, _, hb, _⟩
  · cases ho
  · cases ho; exact Chg.lt hb
theorem ABk.next (h : ABk base G w0 wr k s r F A c B cB) : ABk base G w0 wr (k + 1) s r F A c B cB :=
  ⟨h.bel, h.bs, h.log, h.sim, h.inn, h.wai, h.fF, h.fA, h.fB, h.lim, h.len, by have := h.turn; omega, by have := h.opn; omega, h.fil⟩
theorem ABk.move (h : ABk base G w0 wr k s r F A c B cB) (hc : Chg (fun k _ => wr.heap.size ≤ k) wr w') : ABk base G w0 w' k s r F A c B cB :=
  ⟨h.bel.trans (hc.below h.bs fun j i hj hle => by have := h.bs; omega), Nat.le_trans h.bs hc.size, h.log.chg hc fun j i hj hle => by have := h.log.fp_lt hj; omega, h.sim,
   h.inn.chg hc encE_len fun j i hj hle => by have := slFp_lt h.inn (slFp_len h.inn hj); omega, h.wai.chg hc encE_len fun j i hj hle => by have := slFp_lt h.wai (slFp_len h.wai hj); omega, h.fF, h.fA, h.fB, h.lim, h.len, h.turn, h.opn, h.fil⟩
theorem ABk.drewN (h : ABk base G w0 wr k s r F A c B cB) (m : Nat) : ABk base G w0 (wr.drewN m) k s r F A c B cB := h.move ((Chg.refl _ wr).drewN m)
/-- the log has turned: the two lists stand -/
theorem ABk.turned (h : ABk base G w0 wr k s r F A c B cB) (hc : Chg F wr w') : Below base w0 w' ∧ base ≤ w'.heap.size ∧ GSl encE 3 36 w' A c (s.ws.map entW) ∧ GSl encE 3 36 w' B cB ((unA s.ws).map entW) :=
  ⟨h.bel.trans (hc.below h.bs fun j i hj hF => by have := h.fF j i hF; omega), Nat.le_trans h.bs hc.size,
   h.inn.chg hc encE_len fun j i hj hF => (h.fA j i (slFp_len h.inn hj)).2 hF, h.wai.chg hc encE_len fun j i hj hF => (h.fB j i (slFp_len h.wai hj)).2.1 hF⟩
/-- the list that waits, ahead of its own append -/
theorem ABk.waiting (h : ABk base G w0 wr k s r F A c B cB) (kc : Chg F wr w2) (kR : Chg (fun k _ => w2.heap.size ≤ k) w2 w3) {n : Nat} (k4 : Chg (slFp 3 A n c) w3 w4) (kS : Chg (fun k _ => w4.heap.size ≤ k) w4 w5) : GSl encE 3 36 w5 B cB ((unA s.ws).map entW) := by
  have h2 := (h.turned kc).2.2.2
  have h3 := h2.chg kR encE_len fun j i hj hle => by have := slFp_lt h2 (slFp_len h2 hj); omega
  have h4 := h3.chg k4 encE_len fun j i hj hs => (h.fB j i (slFp_len h.wai hj)).2.2 (slFp_zero hs)
  exact h4.chg kS encE_len fun j i hj hle => by have := slFp_lt h4 (slFp_len h4 hj); omega
theorem ABk.added {id blk : Int} {g : Nat} (h : ABk base G w0 wr k s r F A c B cB) (ha : addR s id blk = 0) (L : LogAt w2 G (addS s id blk g) F') (kc : Chg F wr w2) (hf' : ∀ k i, F' k i → F k i ∨ wr.heap.size ≤ k)
    (kR : Chg (fun k _ => w2.heap.size ≤ k) w2 w3) (k4 : Chg (slFp 3 A (s.ws.map entW).length c) w3 w4) (a4 : GSl encE 3 36 w4 A' c' (s.ws.map entW ++ [(id, blk, s.opn)])) (q4 : (A' = A ∧ c' = c) ∨ ∃ g, A' = some ⟨g, 0, none⟩ ∧ w3.heap.size ≤ g)
    (kS : Chg (fun k _ => w4.heap.size ≤ k) w4 w5) (k6 : Chg (slFp 3 B ((unA s.ws).map entW).length cB) w5 w6) (b6 : GSl encE 3 36 w6 B' cB' ((unA s.ws).map entW ++ [(id, blk, s.opn)])) (q6 : (B' = B ∧ cB' = cB) ∨ ∃ g, B' = some ⟨g, 0, none⟩ ∧ w5.heap.size ≤ g) :
    ABk base G w0 w6 (k + 1) (addS s id blk g) (rAddT r id blk) F' A' c' B' cB' := by
  obtain ⟨t1, t2, t3, t4⟩ := h.turned kc
  have s3 := kR.size
  have s4 := k4.size
  have s5 := kS.size
  have s6 := k6.size
  have s2 := kc.size
  have lB : ∀ j i, slFp 3 B 0 cB j i → j < w2.heap.size := fun j i hj => slFp_lt t4 hj
  have lA : ∀ j i, slFp 3 A 0 c j i → j < w2.heap.size := fun j i hj => slFp_lt t3 hj
  have nA : ∀ j i, slFp 3 A 0 c j i → ¬ F' j i := fun j i hj hf => by
    rcases hf' j i hf with h1 | h1
    · exact (h.fA j i hj).2 h1
    · have := slFp_lt h.inn hj; omega
  have nB : ∀ j i, slFp 3 B 0 cB j i → ¬ F' j i := fun j i hj hf => by
    rcases hf' j i hf with h1 | h1
    · exact (h.fB j i hj).2.1 h1
    · have := slFp_lt h.wai hj; omega
  have bA : ∀ j i, slFp 3 A 0 c j i → base ≤ j := fun j i hj => (h.fA j i hj).1
  have bB : ∀ j i, slFp 3 B 0 cB j i → base ≤ j := fun j i hj => (h.fB j i hj).1
  have L3 := L.chg kR fun j i hj hle => by have := L.fp_lt hj; omega
  have L4 := L3.chg k4 fun j i hj hs => nA j i (slFp_zero hs) hj
  have L5 := L4.chg kS fun j i hj hle => by have := L4.fp_lt hj; omega
  have L6 := L5.chg k6 fun j i hj hs => nB j i (slFp_zero hs) hj
  have A'lt : ∀ j i, slFp 3 A' 0 c' j i → base ≤ j ∧ ¬ F' j i ∧ j < w4.heap.size ∧ (slFp 3 A 0 c j i ∨ w3.heap.size ≤ j) := fun j i hj => by
    have hlt := slFp_lt a4 hj
    rcases q4 with ⟨rfl, rfl⟩ | ⟨g', rfl, hg'⟩
    · exact ⟨bA j i hj, nA j i hj, hlt, .inl hj⟩
    · obtain ⟨o, ho, _⟩ := hj
      cases ho
      exact ⟨by omega, fun hf => by have := L.fp_lt hf; omega, hlt, .inr hg'⟩
  have a5 := a4.chg kS encE_len fun j i hj hle => by have := slFp_lt a4 (slFp_len a4 hj); omega
  have a6 := a5.chg k6 encE_len fun j i hj hs => by
    have hB := slFp_zero hs
    rcases (A'lt j i (slFp_len a4 hj)).2.2.2 with h1 | h1
    · exact (h.fB j i hB).2.2 h1
    · have := lB j i hB; omega
  refine ⟨?_, by omega, L6, (h.sim.add id blk g ha).1, ?_, ?_, fun j i hj => ?_, fun j i hj => ⟨(A'lt j i hj).1, (A'lt j i hj).2.1⟩, fun j i hj => ?_, h.lim, ?_, ?_, ?_, ?_⟩
  · exact (((t1.trans (kR.below t2 fun j i hj hle => by omega)).trans (k4.below (by omega) fun j i hj hs => by have := bA j i (slFp_zero hs); omega)).trans (kS.below (by omega) fun j i hj hle => by omega)).trans (k6.below (by omega) fun j i hj hs => by have := bB j i (slFp_zero hs); omega)
  · show GSl _ _ _ _ _ _ ((s.ws ++ [_]).map entW)
    rw [List.map_append]; exact a6
  · rw [unA_add, List.map_append]; exact b6
  · rcases hf' j i hj with h1 | h1
    · exact h.fF j i h1
    · have := h.bs; omega
  · rcases q6 with ⟨rfl, rfl⟩ | ⟨g', rfl, hg'⟩
    · refine ⟨bB j i hj, nB j i hj, fun hA => ?_⟩
      rcases (A'lt j i hA).2.2.2 with h1 | h1
      · exact (h.fB j i hj).2.2 h1
      · have := lB j i hj; omega
    · obtain ⟨o, ho, _⟩ := hj
      cases ho
      exact ⟨by omega, fun hf => by have := L.fp_lt hf; omega, fun hA => by have := (A'lt j i hA).2.2.1; omega⟩
  · show ((s.ws ++ [_]).length : Int) ≤ s.limit
    have hf : ¬ (s.limit ≤ s.ws.length ∨ s.width ≤ s.filled) := by
      unfold addR at ha
      intro hc
      rw [if_pos hc] at ha
      split at ha
      · cases ha
      split at ha
      · cases ha
      split at ha
      · cases ha
      · cases ha
    rw [List.length_append, List.length_singleton]; omega
  · show s.turn + 1 ≤ k + 1
    have := h.turn; omega
  · show s.opn ≤ _
    have := h.opn; omega
  · show s.filled + 1 ≤ s.width
    have hf : ¬ (s.limit ≤ s.ws.length ∨ s.width ≤ s.filled) := by
      unfold addR at ha
      intro hc
      rw [if_pos hc] at ha
      split at ha
      · cases ha
      split at ha
      · cases ha
      split at ha
      · cases ha
      · cases ha
    omega
theorem ABk.closed (h : ABk base G w0 wr k s r F A c B cB) (L : LogAt w' G (closeS s) F) (hc : Chg F wr w') : ABk base G w0 w' (k + 1) (closeS s) (rCloseT r) F A c B cB := by
  obtain ⟨t1, t2, t3, t4⟩ := h.turned hc
  have e1 : (closeS s).ws = s.ws ∧ (closeS s).limit = s.limit ∧ (closeS s).width = s.width ∧ (closeS s).turn = s.turn ∧ (closeS s).opn ≤ s.opn + 1 ∧ (0 ≤ s.filled → s.filled ≤ s.width → (closeS s).filled ≤ s.width) := by
    unfold closeS
    split
    · exact ⟨rfl, rfl, rfl, rfl, by omega, fun _ h => h⟩
    · exact ⟨rfl, rfl, rfl, rfl, by show s.opn + 1 ≤ _; omega, fun h1 h2 => by show (0 : Int) ≤ s.width; omega⟩
  obtain ⟨e1, e2, e3, e4, e5, e6⟩ := e1
  refine ⟨t1, t2, L, h.sim.close, by rw [e1]; exact t3, by rw [e1]; exact t4, h.fF, h.fA, h.fB, by rw [e2, e3]; exact h.lim, by rw [e1, e2]; exact h.len, by rw [e4]; have := h.turn; omega, by have := h.opn; omega, by rw [e3]; exact e6 (by rw [h.sim.fil]; omega) h.fil⟩
/-- an Ack, and the list that waits anew -/
theorem ABk.acked (id : Int) (h : ABk base G w0 wr k s r F A c B cB) (L : LogAt w1 G (ackT s id) F) (hc : Chg F wr w1) (kR : Chg (fun k _ => w1.heap.size ≤ k) w1 w2) (b : GSl encE 3 36 w2 B' cB' (((unA s.ws).filter fun x => !(x.id == id)).map entW)) (hB : ∀ j i, slFp 3 B' 0 cB' j i → w1.heap.size ≤ j) :
    ABk base G w0 w2 (k + 1) (ackT s id) (rAckT r id) F A c B' cB' := by
  obtain ⟨t1, t2, t3, t4⟩ := h.turned hc
  have e0 : (ackT s id).ws.map entW = s.ws.map entW ∧ (ackT s id).limit = s.limit ∧ (ackT s id).width = s.width ∧ (ackT s id).turn = s.turn ∧ (ackT s id).opn = s.opn ∧ (ackT s id).filled = s.filled := by
    unfold ackT
    split
    · refine ⟨?_, rfl, rfl, rfl, rfl, rfl⟩
      show (s.ws.map (ackW id)).map entW = _
      rw [List.map_map]
      exact List.map_congr_left fun x _ => by show (((ackW id x).id, (ackW id x).blk, (ackW id x).ep) : Int × Int × Int) = _; rw [ackW_id, ackW_blk, ackW_ep]; rfl
    · exact ⟨rfl, rfl, rfl, rfl, rfl, rfl⟩
  obtain ⟨e1, e2, e3, e4, e5, e6⟩ := e0
  have el : (ackT s id).ws.length = s.ws.length := by have := congrArg List.length e1; simpa using this
  refine ⟨t1.trans (kR.below t2 fun j i hj hle => by omega), Nat.le_trans t2 kR.size, L.chg kR fun j i hj hle => by have := L.fp_lt hj; omega, h.sim.ack id, ?_, by rw [unA_ack h.sim.ids]; exact b, h.fF, h.fA, fun j i hj => ?_, by rw [e2, e3]; exact h.lim, by rw [el, e2]; exact h.len, by rw [e4]; have := h.turn; omega, by rw [e5]; have := h.opn; omega, by rw [e6, e3]; exact h.fil⟩
  · rw [e1]
    exact t3.chg kR encE_len fun j i hj hle => by have := slFp_lt t3 (slFp_len t3 hj); omega
  · have := hB j i hj
    exact ⟨by omega, fun hf => by have := L.fp_lt hf; omega, fun hA => by have := slFp_lt t3 hA; omega⟩
/-- a barrier that is taken, and the list that waits anew -/
theorem ABk.left {ep : Int} {n : Nat} (h : ABk base G w0 wr k s r F A c B cB) (hb : barOk s ep n) (L : LogAt w1 G { s with ws := s.ws.drop n } F') (hc : Chg F wr w1) (hF : ∀ k i, F' k i → F k i) (kR : Chg (fun k _ => w1.heap.size ≤ k) w1 w2)
    (b : GSl encE 3 36 w2 B' cB' (((unA s.ws).filter fun x => !(x.ep == ep)).map entW)) (hB : ∀ j i, slFp 3 B' 0 cB' j i → w1.heap.size ≤ j) :
    ABk base G w0 w2 (k + 1) { s with ws := s.ws.drop n } (rBarT r ep) F' (if c = n then A else A.map (·.add (n * 3))) (c - n) B' cB' := by
  obtain ⟨t1, t2, t3, t4⟩ := h.turned hc
  have hb' := hb
  obtain ⟨x, l, h1, h2, h3, h4⟩ := hb'
  have hn : lead s.ws ep = n := by omega
  have hle : n ≤ s.ws.length := by rw [← hn]; exact lead_le _ _
  have hcn := h.inn.le
  rw [List.length_map] at hcn
  have hsub : ∀ j i, slFp 3 (if c = n then A else A.map (·.add (n * 3))) 0 (c - n) j i → slFp 3 A 0 c j i := fun j i hj => by
    by_cases e : c = n
    · rw [if_pos e] at hj
      obtain ⟨o, ho, g1, g2⟩ := hj
      exact ⟨o, ho, g1, by have : (c - n) * 3 ≤ c * 3 := Nat.mul_le_mul_right _ (by omega); omega⟩
    · rw [if_neg e] at hj
      obtain ⟨o, ho, g1, g2⟩ := hj
      cases A with
      | none => cases ho
      | some a =>
        rcases h.inn with ⟨h, _⟩ | ⟨g, o', cs, ha, _⟩
        · cases h
        · cases ha
          simp only [Option.map_some, add_lit_, Option.some.injEq, Addr.mk.injEq] at ho
          obtain ⟨rfl, rfl, _⟩ := ho
          exact ⟨o', rfl, by omega, by rw [Nat.sub_mul] at g2; have : n * 3 ≤ c * 3 := Nat.mul_le_mul_right _ (by omega); omega⟩
  have t3' : GSl encE 3 36 w1 (if c = n then A else A.map (·.add (n * 3))) (c - n) ((s.ws.drop n).map entW) := by
    rw [List.map_drop]
    exact t3.drop n (by rw [List.length_map]; exact hle)
  have hs := h.sim.bar hb
  rw [hn] at hs
  have hu : unA (s.ws.drop n) = (unA s.ws).filter fun x => !(x.ep == ep) := by
    have := unA_left (e := ep) h.sim.ord (by rw [← h3]; exact h.sim.min h1)
    rwa [hn] at this
  refine ⟨t1.trans (kR.below t2 fun j i hj hle => by omega), Nat.le_trans t2 kR.size, L.chg kR fun j i hj hle => by have := L.fp_lt hj; omega, hs, ?_, by show GSl _ _ _ _ _ _ ((unA (s.ws.drop n)).map entW); rw [hu]; exact b, fun j i hj => h.fF j i (hF j i hj), fun j i hj => ?_, fun j i hj => ?_, h.lim, ?_, ?_, ?_, h.fil⟩
  · exact t3'.chg kR encE_len fun j i hj hle => by have := slFp_lt t3' (slFp_len t3' hj); omega
  · have := h.fA j i (hsub j i hj)
    exact ⟨this.1, fun hf => this.2 (hF j i hf)⟩
  · have := hB j i hj
    exact ⟨by omega, fun hf => by have := L.fp_lt hf; omega, fun hA => by have := slFp_lt t3 (hsub j i hA); omega⟩
  · show ((s.ws.drop n).length : Int) ≤ s.limit
    have := h.len; rw [List.length_drop]; omega
  · show s.turn ≤ _
    have := h.turn; omega
  · show s.opn ≤ _
    have := h.opn; omega
end
end Go.Proofs.Ytagkhhoimgighaa
