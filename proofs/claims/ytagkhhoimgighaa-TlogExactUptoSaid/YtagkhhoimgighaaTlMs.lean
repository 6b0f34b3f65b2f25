/- TlogMoves: the log, the document's log and the Book side by side in memory. No walk. -/
import Derived.Test.YtagkhhoimgighaaTlMk
namespace Go.Proofs.Ytagkhhoimgighaa
open Go.RowKit
set_option linter.unusedVariables false
set_option linter.unusedSimpArgs false
theorem GSl.ents {e : TypeId} {w : World} {A : Option Addr} {c : Nat} {l : List Wr} (h : GSl encW 3 e w A c l) : GSl encE 3 e w A c (l.map entW) := by
  rcases h with ⟨h1, rfl, h2⟩ | ⟨g, o, cs, h1, h2, h3, h4, h5, h6⟩
  · exact .inl ⟨h1, rfl, h2⟩
  · refine .inr ⟨g, o, cs, h1, by simpa using h2, h3, h4, h5, fun i x hx j v hv => ?_⟩
    rw [List.getElem?_map] at hx
    obtain ⟨y, hy, rfl⟩ := Option.map_eq_some_iff.1 hx
    exact h6 i y hy j v hv
structure MS (Q : Nat → Nat → Prop) (w : World) (G R B : Nat) (s : LogS) (r : RefT) (F : Nat → Nat → Prop) (FR : Nat → Prop) (FB : Nat → Nat → Prop) (fn kn : Nat) (mk : Int) : Prop where
  bs : ∀ k, w.heap.size ≤ k → ∀ i, Q k i
  log : LogAt w G s F
  ref : RefAt w R r FR
  bk : BkAt w B fn kn mk FB
  dFR : ∀ k i, F k i → ¬ FR k
  dFB : ∀ k i, F k i → ¬ FB k i
  dBR : ∀ k i, FB k i → ¬ FR k
  fF : ∀ k i, F k i → Q k i
  fR : ∀ k, FR k → ∀ i, Q k i
  fB : ∀ k i, FB k i → Q k i
section
variable {Q : Nat → Nat → Prop} {w w' : World} {G R B : Nat} {s s' : LogS} {r r' : RefT} {F F' : Nat → Nat → Prop} {FR FR' : Nat → Prop} {FB FB' : Nat → Nat → Prop} {fn kn fn' kn' : Nat} {mk mk' : Int}
/-- something apart from all three has turned -/
theorem MS.other {X : Nat → Nat → Prop} (h : MS Q w G R B s r F FR FB fn kn mk) (hc : Chg X w w') (h1 : ∀ k i, F k i → ¬ X k i) (h2 : ∀ k, FR k → ∀ i, ¬ X k i) (h3 : ∀ k i, FB k i → ¬ X k i) : MS Q w' G R B s r F FR FB fn kn mk :=
  ⟨fun k hk => h.bs k (Nat.le_trans hc.size hk), h.log.chg hc h1, h.ref.chg hc h2, h.bk.chg hc h3, h.dFR, h.dFB, h.dBR, h.fF, h.fR, h.fB⟩
theorem MS.high {n : Nat} (h : MS Q w G R B s r F FR FB fn kn mk) (hc : Chg (fun k _ => n ≤ k) w w') (hn : ∀ k i, F k i → k < n) (hn2 : ∀ k, FR k → k < n) (hn3 : ∀ k i, FB k i → k < n) : MS Q w' G R B s r F FR FB fn kn mk :=
  h.other hc (fun k i hk hle => by have := hn k i hk; omega) (fun k hk i hle => by have := hn2 k hk; omega) fun k i hk hle => by have := hn3 k i hk; omega
theorem MS.below (h : MS Q w G R B s r F FR FB fn kn mk) (hB : Below w.heap.size w w') : MS Q w' G R B s r F FR FB fn kn mk := h.other (Chg.of_below (fun _ _ => False) hB) (fun _ _ _ h => h) (fun _ _ _ h => h) fun _ _ _ h => h
/-- the program's log has turned -/
theorem MS.logT (h : MS Q w G R B s r F FR FB fn kn mk) (L : LogAt w' G s' F') (hc : Chg F w w') (hF : ∀ k i, F' k i → F k i ∨ w.heap.size ≤ k) : MS Q w' G R B s' r F' FR FB fn kn mk := by
  refine ⟨fun k hk => h.bs k (Nat.le_trans hc.size hk), L, h.ref.chg hc fun k hk i hf => h.dFR k i hf hk, h.bk.chg hc fun k i hk hf => h.dFB k i hf hk, fun k i hk hr => ?_, fun k i hk hb => ?_, h.dBR, fun k i hk => ?_, h.fR, h.fB⟩
  · rcases hF k i hk with h1 | h1
    · exact h.dFR k i h1 hr
    · have := h.ref.lt hr; omega
  · rcases hF k i hk with h1 | h1
    · exact h.dFB k i h1 hb
    · have := h.bk.lt hb; omega
  · rcases hF k i hk with h1 | h1
    · exact h.fF k i h1
    · exact h.bs k h1 i
/-- the document's log has turned -/
theorem MS.refT (h : MS Q w G R B s r F FR FB fn kn mk) (L : RefAt w' R r' FR') (hc : Chg (fun k _ => FR k) w w') (hF : ∀ k, FR' k → FR k ∨ w.heap.size ≤ k) : MS Q w' G R B s r' F FR' FB fn kn mk := by
  refine ⟨fun k hk => h.bs k (Nat.le_trans hc.size hk), h.log.chg hc fun k i hk hr => h.dFR k i hk hr, L, h.bk.chg hc fun k i hk hr => h.dBR k i hk hr, fun k i hk hr => ?_, h.dFB, fun k i hk hr => ?_, h.fF, fun k hk => ?_, h.fB⟩
  · rcases hF k hr with h1 | h1
    · exact h.dFR k i hk h1
    · have := h.log.fp_lt hk; omega
  · rcases hF k hr with h1 | h1
    · exact h.dBR k i hk h1
    · have := h.bk.lt hk; omega
  · rcases hF k hk with h1 | h1
    · exact h.fR k h1
    · exact h.bs k h1
/-- the Book has turned, and a list that it was handed -/
theorem MS.bookT {C : Nat → Nat → Prop} (h : MS Q w G R B s r F FR FB fn kn mk) (L : BkAt w' B fn' kn' mk' FB') (hc : Chg (fun k i => FB k i ∨ C k i) w w') (hF : ∀ k i, FB' k i → FB k i ∨ C k i ∨ w.heap.size ≤ k) (c1 : ∀ k i, C k i → ¬ F k i) (c2 : ∀ k i, C k i → ¬ FR k) (c3 : ∀ k i, C k i → Q k i) : MS Q w' G R B s r F FR FB' fn' kn' mk' := by
  refine ⟨fun k hk => h.bs k (Nat.le_trans hc.size hk), h.log.chg hc fun k i hk hf => hf.elim (h.dFB k i hk) fun e => c1 k i e hk, h.ref.chg hc fun k hk i hf => hf.elim (fun e => h.dBR k i e hk) fun e => c2 k i e hk, L, h.dFR, fun k i hk hb => ?_, fun k i hk hr => ?_, h.fF, h.fR, fun k i hk => ?_⟩
  · rcases hF k i hb with h1 | h1 | h1
    · exact h.dFB k i hk h1
    · exact c1 k i h1 hk
    · have := h.log.fp_lt hk; omega
  · rcases hF k i hk with h1 | h1 | h1
    · exact h.dBR k i h1 hr
    · exact c2 k i h1 hr
    · have := h.ref.lt hr; omega
  · rcases hF k i hk with h1 | h1 | h1
    · exact h.fB k i h1
    · exact c3 k i h1
    · exact h.bs k h1 i
end
/-- the state of TlogMoves ahead of call k -/
structure PS (Q : Nat → Nat → Prop) (w : World) (G R B k : Nat) (s : LogS) (r : RefT) (F : Nat → Nat → Prop) (FR : Nat → Prop) (FB : Nat → Nat → Prop) (fn kn : Nat) (mk : Int) : Prop where
  ms : MS Q w G R B s r F FR FB fn kn mk
  sim : Sim s r
  lim : goodB s.limit s.width
  len : (s.ws.length : Int) ≤ s.limit
  turn : s.turn ≤ k
  opn : s.opn ≤ k + 1
  fil : s.filled ≤ s.width
  fn1 : fn ≤ 1
  kn1 : kn ≤ 4 * k
  mk0 : 0 ≤ mk
  mk1 : mk ≤ 2 * k
section
variable {Q : Nat → Nat → Prop} {w w' : World} {G R B k : Nat} {s s' : LogS} {r r' : RefT} {F F' : Nat → Nat → Prop} {FR FR' : Nat → Prop} {FB FB' : Nat → Nat → Prop} {fn kn fn' kn' : Nat} {mk mk' : Int}
theorem PS.rlen (h : PS Q w G R B k s r F FR FB fn kn mk) : r.lines.length ≤ 1024 := by
  have h1 := h.sim.len
  have h2 := h.len
  have h3 := h.lim.2.1
  omega
theorem PS.next (h : PS Q w G R B k s r F FR FB fn kn mk) : PS Q w G R B (k + 1) s r F FR FB fn kn mk :=
  ⟨h.ms, h.sim, h.lim, h.len, by have := h.turn; omega, by have := h.opn; omega, h.fil, h.fn1, by have := h.kn1; omega, h.mk0, by have := h.mk1; omega⟩
theorem Sim.fil0 {s : LogS} {r : RefT} (h : Sim s r) : 0 ≤ s.filled := by rw [h.fil]; omega
theorem closeS_parts (s : LogS) : (closeS s).ws = s.ws ∧ (closeS s).limit = s.limit ∧ (closeS s).width = s.width ∧ (closeS s).turn = s.turn ∧ (closeS s).opn ≤ s.opn + 1 ∧ (0 ≤ s.filled → s.filled ≤ s.width → (closeS s).filled ≤ s.width) := by
  unfold closeS
  split
  · exact ⟨rfl, rfl, rfl, rfl, by omega, fun _ h => h⟩
  · exact ⟨rfl, rfl, rfl, rfl, by show s.opn + 1 ≤ _; omega, fun h1 h2 => by show (0 : Int) ≤ s.width; omega⟩
theorem ackT_parts (s : LogS) (id : Int) : (ackT s id).ws.length = s.ws.length ∧ (ackT s id).limit = s.limit ∧ (ackT s id).width = s.width ∧ (ackT s id).turn = s.turn ∧ (ackT s id).opn = s.opn ∧ (ackT s id).filled = s.filled := by
  unfold ackT
  split
  · exact ⟨by simp [ackS], rfl, rfl, rfl, rfl, rfl⟩
  · exact ⟨rfl, rfl, rfl, rfl, rfl, rfl⟩
theorem PS.closed (h : PS Q w G R B k s r F FR FB fn kn mk) (m : MS Q w' G R B (closeS s) (rCloseT r) F' FR' FB fn kn mk) : PS Q w' G R B (k + 1) (closeS s) (rCloseT r) F' FR' FB fn kn mk := by
  obtain ⟨e1, e2, e3, e4, e5, e6⟩ := closeS_parts s
  refine ⟨m, h.sim.close, by rw [e2, e3]; exact h.lim, by rw [e1, e2]; exact h.len, by rw [e4]; have := h.turn; omega, by have := h.opn; omega, by rw [e3]; exact e6 h.sim.fil0 h.fil, h.fn1, by have := h.kn1; omega, h.mk0, by have := h.mk1; omega⟩
theorem PS.ackd (h : PS Q w G R B k s r F FR FB fn kn mk) (id : Int) (m : MS Q w' G R B (ackT s id) (rAckT r id) F' FR' FB fn kn mk) : PS Q w' G R B (k + 1) (ackT s id) (rAckT r id) F' FR' FB fn kn mk := by
  obtain ⟨e1, e2, e3, e4, e5, e6⟩ := ackT_parts s id
  refine ⟨m, h.sim.ack id, by rw [e2, e3]; exact h.lim, by rw [e1, e2]; exact h.len, by rw [e4]; have := h.turn; omega, by rw [e5]; have := h.opn; omega, by rw [e6, e3]; exact h.fil, h.fn1, by have := h.kn1; omega, h.mk0, by have := h.mk1; omega⟩
theorem PS.added (h : PS Q w G R B k s r F FR FB fn kn mk) (id blk : Int) (g : Nat) (ha : addR s id blk = 0) (m : MS Q w' G R B (addS s id blk g) (rAddT r id blk) F' FR' FB fn kn mk) : PS Q w' G R B (k + 1) (addS s id blk g) (rAddT r id blk) F' FR' FB fn kn mk := by
  have hf : ¬ (s.limit ≤ s.ws.length ∨ s.width ≤ s.filled) := by
    unfold addR at ha
    intro hc
    rw [if_pos hc] at ha
    split at ha
    · cases ha
    split at ha
    · cases ha
    split at ha
    · cases ha
    · cases ha
  refine ⟨m, (h.sim.add id blk g ha).1, h.lim, ?_, ?_, ?_, ?_, h.fn1, by have := h.kn1; omega, h.mk0, by have := h.mk1; omega⟩
  · show ((s.ws ++ [_]).length : Int) ≤ s.limit
    rw [List.length_append, List.length_singleton]; omega
  · show s.turn + 1 ≤ k + 1
    have := h.turn; omega
  · show s.opn ≤ _
    have := h.opn; omega
  · show s.filled + 1 ≤ s.width
    omega
theorem PS.barred (h : PS Q w G R B k s r F FR FB fn kn mk) {ep cnt : Int} (hb : barOk s ep cnt) (m : MS Q w' G R B { s with ws := s.ws.drop (lead s.ws ep) } (rBarT r ep) F' FR' FB' fn' kn' mk') (h1 : fn' ≤ 1) (h2 : kn' ≤ kn + 4) (h3 : mk ≤ mk') (h4 : mk' ≤ mk + 2) :
    PS Q w' G R B (k + 1) { s with ws := s.ws.drop (lead s.ws ep) } (rBarT r ep) F' FR' FB' fn' kn' mk' :=
  ⟨m, h.sim.bar hb, h.lim, by show ((s.ws.drop _).length : Int) ≤ s.limit; have := h.len; rw [List.length_drop]; omega, by show s.turn ≤ _; have := h.turn; omega, by show s.opn ≤ _; have := h.opn; omega, h.fil, h1, by have := h.kn1; omega, by have := h.mk0; omega, by have := h.mk1; omega⟩
theorem PS.failed (h : PS Q w G R B k s r F FR FB fn kn mk) (m : MS Q w' G R B (failS s) (rFailT r) F' FR' FB' fn' kn' mk') (h1 : fn' ≤ 1) (h2 : kn' ≤ kn + 4) (h3 : mk ≤ mk') (h4 : mk' ≤ mk + 2) : PS Q w' G R B (k + 1) (failS s) (rFailT r) F' FR' FB' fn' kn' mk' :=
  ⟨m, h.sim.fail, h.lim, by show (0 : Int) ≤ s.limit; have := h.lim.1; omega, by show s.turn ≤ _; have := h.turn; omega, by show (1 : Int) ≤ _; omega, by show (0 : Int) ≤ s.width; have := h.lim.2.2.1; omega, h1, by have := h.kn1; omega, by have := h.mk0; omega, by have := h.mk1; omega⟩
theorem PS.keptB (h : PS Q w G R B k s r F FR FB fn kn mk) (m : MS Q w' G R B s r F' FR' FB' fn' kn' mk') (h1 : fn' ≤ 1) (h2 : kn' ≤ kn + 4) (h3 : mk ≤ mk') (h4 : mk' ≤ mk + 2) : PS Q w' G R B (k + 1) s r F' FR' FB' fn' kn' mk' :=
  ⟨m, h.sim, h.lim, h.len, by have := h.turn; omega, by have := h.opn; omega, h.fil, h1, by have := h.kn1; omega, by have := h.mk0; omega, by have := h.mk1; omega⟩
end
end Go.Proofs.Ytagkhhoimgighaa
