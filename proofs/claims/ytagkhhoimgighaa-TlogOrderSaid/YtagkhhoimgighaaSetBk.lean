/- The book of TlogSettled: the log, and the list of the closed epochs' sizes, side by side in memory. No program's walk is in sight. -/
import Derived.Test.YtagkhhoimgighaaFull
namespace Go.Proofs.Ytagkhhoimgighaa
open Go.RowKit

/-- epochs from e on, so many writes in each -/
def layers : Int → List Nat → List Int
  | _, [] => []
  | e, c :: cs => List.replicate c e ++ layers (e + 1) cs
theorem layers_snoc (e : Int) (cs : List Nat) (n : Nat) : layers e (cs ++ [n]) = layers e cs ++ List.replicate n (e + cs.length) := by
  induction cs generalizing e with
  | nil => simp [layers]
  | cons c cs ih => rw [List.cons_append, layers, layers, ih, List.append_assoc, List.length_cons, show e + 1 + (cs.length : Int) = e + ((cs.length + 1 : Nat) : Int) from by omega]
theorem layers_ge {e x : Int} {cs : List Nat} (h : x ∈ layers e cs) : e ≤ x := by
  induction cs generalizing e with
  | nil => cases h
  | cons c cs ih =>
    rw [layers] at h
    rcases List.mem_append.1 h with h | h
    · rw [List.eq_of_mem_replicate h]; exact Int.le_refl _
    · have := ih h; omega
theorem lead_map (ws : List Wr) (e : Int) : lead ws e = ((ws.map (·.ep)).takeWhile fun y => y == e).length := by
  unfold lead
  rw [List.takeWhile_map, List.length_map]
  rfl
theorem take_reps (c : Nat) (e : Int) (r : List Int) (h : ∀ x ∈ r, x ≠ e) : ((List.replicate c e ++ r).takeWhile fun y => y == e) = List.replicate c e := by
  induction c with
  | zero =>
    cases r with
    | nil => rfl
    | cons x r => rw [List.replicate_zero, List.nil_append, List.takeWhile_cons_of_neg (by simpa using h x (List.mem_cons_self ..))]
  | succ c ih => rw [List.replicate_succ, List.cons_append, List.takeWhile_cons_of_pos (by simp), ih]
abbrev encN (n : Nat) : List Value := [.int .i64 n]
theorem encN_len (n : Nat) : (encN n).length = 1 := rfl
theorem encN_one (n : Nat) : ∀ v ∈ encN n, v.oneCell' = true := fun v hv => by obtain rfl := List.mem_singleton.1 hv; rfl
theorem GSl.new1 {α : Type} (enc : α → List Value) (sz : Nat) (w : World) (e : TypeId) (x : α) (h : (enc x).length = sz) : GSl enc sz e (w.alloc (.cells (enc x).toArray e)) (some ⟨w.heap.size, 0, none⟩) 1 [x] := by
  refine .inr ⟨_, _, (enc x).toArray, rfl, Nat.le_refl _, by unfold maxLen; omega, heap_alloc_new w _, by simp; omega, fun i y hy j v hv => ?_⟩
  have hi := (List.getElem?_eq_some_iff.1 hy).1
  obtain rfl : i = 0 := by simpa using hi
  cases hy
  simpa using hv

structure SBk (base G : Nat) (w0 wr : World) (limit width : Int) (k lf sh op turn : Nat) (ws : List Wr) (F : Nat → Nat → Prop) (A : Option Addr) (c : Nat) (sz : List Nat) : Prop where
  bel : Below base w0 wr
  bs : base ≤ wr.heap.size
  log : LogAt wr G ⟨limit, width, sh + 1, op, turn, ws⟩ F
  szs : GSl encN 1 3 wr A c sz
  fF : ∀ k i, F k i → base ≤ k
  fI : ∀ k i, slFp 1 A 0 c k i → base ≤ k ∧ ¬ F k i
  hlen : sz.length = sh + 1
  le : lf ≤ sh
  lay : ws.map (·.ep) = layers (lf + 1) (sz.drop (lf + 1)) ++ List.replicate op ((sh : Int) + 1)
  pos : ∀ n ∈ sz.drop (lf + 1), 0 < n
  f1 : (op : Int) ≤ width
  l1 : (ws.length : Int) ≤ limit
  t1 : turn ≤ k
  s1 : sh ≤ k
section
variable {base G : Nat} {w0 wr w' : World} {limit width : Int} {k lf sh op turn : Nat} {ws : List Wr} {F : Nat → Nat → Prop} {A : Option Addr} {c : Nat} {sz : List Nat}
theorem SBk.next (h : SBk base G w0 wr limit width k lf sh op turn ws F A c sz) : SBk base G w0 wr limit width (k + 1) lf sh op turn ws F A c sz :=
  ⟨h.bel, h.bs, h.log, h.szs, h.fF, h.fI, h.hlen, h.le, h.lay, h.pos, h.f1, h.l1, Nat.le_succ_of_le h.t1, Nat.le_succ_of_le h.s1⟩
theorem SBk.move (h : SBk base G w0 wr limit width k lf sh op turn ws F A c sz) (hc : Chg (fun k _ => wr.heap.size ≤ k) wr w') : SBk base G w0 w' limit width k lf sh op turn ws F A c sz :=
  ⟨h.bel.trans (hc.below h.bs fun j i hj hle => by have := h.bs; omega), Nat.le_trans h.bs hc.size, h.log.chg hc fun j i hj hle => by have := h.log.fp_lt hj; omega,
   h.szs.chg hc encN_len fun j i hj hle => by have := h.szs.fp_lt hj; omega, h.fF, h.fI, h.hlen, h.le, h.lay, h.pos, h.f1, h.l1, h.t1, h.s1⟩
theorem SBk.drewN (h : SBk base G w0 wr limit width k lf sh op turn ws F A c sz) (m : Nat) : SBk base G w0 (wr.drewN m) limit width k lf sh op turn ws F A c sz := h.move ((Chg.refl _ wr).drewN m)
theorem SBk.turned (h : SBk base G w0 wr limit width k lf sh op turn ws F A c sz) (hc : Chg F wr w') : Below base w0 w' ∧ base ≤ w'.heap.size ∧ GSl encN 1 3 w' A c sz :=
  ⟨h.bel.trans (hc.below h.bs fun j i hj hF => by have := h.fF j i hF; omega), Nat.le_trans h.bs hc.size, h.szs.chg hc encN_len fun j i hj hF => (h.fI j i (slFp_le hj h.szs.le)).2 hF⟩
theorem SBk.added {F' : Nat → Nat → Prop} {g : Nat} {id blk : Int} (h : SBk base G w0 wr limit width k lf sh op turn ws F A c sz) (L : LogAt w' G (addS ⟨limit, width, sh + 1, op, turn, ws⟩ id blk g) F')
    (kc : Chg F wr w') (hf' : ∀ k i, F' k i → F k i ∨ wr.heap.size ≤ k) (hl : (ws.length : Int) < limit) (hw : (op : Int) < width) : ∃ ws', SBk base G w0 w' limit width (k + 1) lf sh (op + 1) (turn + 1) ws' F' A c sz := by
  obtain ⟨t1, t2, t3⟩ := h.turned kc
  have L : LogAt w' G ⟨limit, width, sh + 1, ((op + 1 : Nat) : Int), turn + 1, ws ++ [⟨id, blk, (sh : Int) + 1, turn + 1, false, g⟩]⟩ F' := L
  refine ⟨ws ++ [⟨id, blk, (sh : Int) + 1, turn + 1, false, g⟩], t1, t2, L, t3, fun j i hj => ?_, fun j i hj => ⟨(h.fI j i hj).1, fun hf => ?_⟩, h.hlen, h.le, ?_, h.pos, by omega, by simp; omega, by have := h.t1; omega, Nat.le_succ_of_le h.s1⟩
  · rcases hf' j i hj with h1 | h1
    · exact h.fF j i h1
    · have := h.bs; omega
  · rcases hf' j i hf with h1 | h1
    · exact (h.fI j i hj).2 h1
    · have := h.szs.fp_lt hj; omega
  · rw [List.map_append, h.lay, List.replicate_succ', List.append_assoc]; rfl
theorem SBk.closed0 (h : SBk base G w0 wr limit width k lf sh 0 turn ws F A c sz) (L : LogAt w' G (closeS ⟨limit, width, sh + 1, (0 : Nat), turn, ws⟩) F) (hc : Chg F wr w') : SBk base G w0 w' limit width (k + 1) lf sh 0 turn ws F A c sz := by
  obtain ⟨t1, t2, t3⟩ := h.turned hc
  exact ⟨t1, t2, L, t3, h.fF, h.fI, h.hlen, h.le, h.lay, h.pos, h.f1, h.l1, Nat.le_succ_of_le h.t1, Nat.le_succ_of_le h.s1⟩
/-- the log has closed, the sizes have grown -/
theorem SBk.closed {w2 w3 : World} {A' : Option Addr} {c' : Nat} (h : SBk base G w0 wr limit width k lf sh op turn ws F A c sz) (h0 : 0 < op) (L : LogAt w' G (closeS ⟨limit, width, sh + 1, op, turn, ws⟩) F) (hc : Chg F wr w')
    (kR : Chg (fun k _ => w'.heap.size ≤ k) w' w2) (k4 : Chg (slFp 1 A sz.length c) w2 w3) (a : GSl encN 1 3 w3 A' c' (sz ++ [op])) (q4 : (A' = A ∧ c' = c) ∨ ∃ g, A' = some ⟨g, 0, none⟩ ∧ w2.heap.size ≤ g) :
    SBk base G w0 w3 limit width (k + 1) lf (sh + 1) 0 turn ws F A' c' (sz ++ [op]) := by
  obtain ⟨t1, t2, t3⟩ := h.turned hc
  have L : LogAt w' G ⟨limit, width, ((sh + 1 : Nat) : Int) + 1, (0 : Nat), turn, ws⟩ F := by
    unfold closeS at L
    rw [if_neg (by show ¬ (op : Int) = 0; omega)] at L
    exact L
  have hle := h.le
  have hln := h.hlen
  have hdr : (sz ++ [op]).drop (lf + 1) = sz.drop (lf + 1) ++ [op] := by rw [List.drop_append_of_le_length (by omega)]
  have hlt : ∀ j i, slFp 1 A sz.length c j i → slFp 1 A 0 c j i := fun j i hj => slFp_zero hj
  refine ⟨(t1.trans (kR.below t2 fun j i hj hle => by omega)).trans (k4.below (Nat.le_trans t2 kR.size) fun j i hj hs => by have := (h.fI j i (hlt j i hs)).1; omega), Nat.le_trans (Nat.le_trans t2 kR.size) k4.size,
    (L.chg kR fun j i hj hle => by have := L.fp_lt hj; omega).chg k4 fun j i hj hs => (h.fI j i (hlt j i hs)).2 hj, a, h.fF, fun j i hj => ?_, by simp; omega, by omega, ?_, ?_, by have := h.f1; omega, h.l1, Nat.le_succ_of_le h.t1, by have := h.s1; omega⟩
  · rcases q4 with ⟨rfl, rfl⟩ | ⟨g', rfl, hg'⟩
    · exact h.fI j i hj
    · obtain ⟨o, ho, _⟩ := hj
      cases ho
      have hs := kR.size
      exact ⟨by omega, fun hf => by have := L.fp_lt hf; omega⟩
  · rw [h.lay, hdr, layers_snoc, List.replicate_zero, List.append_nil]
    congr 2
    rw [List.length_drop]
    omega
  · rw [hdr]
    intro n hn
    rcases List.mem_append.1 hn with hn | hn
    · exact h.pos n hn
    · obtain rfl := List.mem_singleton.1 hn; exact h0
theorem SBk.failed {F' : Nat → Nat → Prop} {w2 : World} (h : SBk base G w0 wr limit width k lf sh op turn ws F A c sz) (L : LogAt w' G (failS ⟨limit, width, sh + 1, op, turn, ws⟩) F') (hc : Chg F wr w') (hF : ∀ k i, F' k i → F k i) (hw : 0 ≤ width) (hl : 0 ≤ limit) (h2 : w2 = w'.alloc (.cells (encN 0).toArray 3)) :
    SBk base G w0 w2 limit width (k + 1) 0 0 0 turn [] F' (some ⟨w'.heap.size, 0, none⟩) 1 [0] := by
  obtain ⟨t1, t2, t3⟩ := h.turned hc
  subst h2
  have L : LogAt w' G ⟨limit, width, ((0 : Nat) : Int) + 1, (0 : Nat), turn, []⟩ F' := L
  have kA := Chg.alloc (fun k _ => w'.heap.size ≤ k) w' (.cells (encN 0).toArray 3)
  refine ⟨t1.trans (kA.below t2 fun j i hj hle => by omega), Nat.le_trans t2 kA.size, L.chg kA fun j i hj hle => by have := L.fp_lt hj; omega, GSl.new1 encN 1 w' 3 0 rfl, fun j i hj => h.fF j i (hF j i hj), fun j i ⟨o, ho, _⟩ => ?_, rfl, Nat.le_refl _, rfl, (fun n hn => by cases hn), by omega, by simpa using hl, Nat.le_succ_of_le h.t1, by omega⟩
  cases ho
  exact ⟨t2, fun hf => by have := L.fp_lt hf; omega⟩
/-- the oldest closed epoch may leave -/
theorem SBk.bar (h : SBk base G w0 wr limit width k lf sh op turn ws F A c sz) (hlt : lf < sh) : ∃ n, sz[lf + 1]? = some n ∧ barOk ⟨limit, width, sh + 1, op, turn, ws⟩ (lf + 1) n := by
  have hln := h.hlen
  have hx : sz[lf + 1]? = some sz[lf + 1] := List.getElem?_eq_getElem (by omega)
  have hd : sz.drop (lf + 1) = sz[lf + 1] :: sz.drop (lf + 2) := by rw [List.drop_eq_getElem_cons (by omega)]
  have hlay := h.lay
  have hpos := h.pos sz[lf + 1] (by rw [hd]; exact List.mem_cons_self ..)
  rw [hd, layers, List.append_assoc] at hlay
  have hlead : lead ws ((lf : Int) + 1) = sz[lf + 1] := by
    rw [lead_map, hlay, take_reps, List.length_replicate]
    intro x hx
    rcases List.mem_append.1 hx with hx | hx
    · have := layers_ge hx; omega
    · rw [List.eq_of_mem_replicate hx]; omega
  refine ⟨_, hx, ?_⟩
  cases hw : ws with
  | nil =>
    rw [hw] at hlay
    have := congrArg List.length hlay
    simp at this
    omega
  | cons x xs =>
    refine ⟨x, xs, rfl, ?_, ?_, by rw [← hw]; show (lead ws _ : Int) = _; rw [hlead]⟩
    all_goals
      have hxe : x.ep = (lf : Int) + 1 := by
        rw [hw] at hlay
        obtain ⟨m, hm⟩ : ∃ m, sz[lf + 1] = m + 1 := ⟨sz[lf + 1] - 1, by omega⟩
        rw [hm, List.replicate_succ, List.cons_append, List.map_cons] at hlay
        exact (List.cons.inj hlay).1
      first | exact hxe | (rw [hxe]; show ¬ ((lf : Int) + 1 = (sh : Int) + 1); omega)
theorem SBk.left {F' : Nat → Nat → Prop} {n : Nat} (h : SBk base G w0 wr limit width k lf sh op turn ws F A c sz) (hlt : lf < sh) (hn : sz[lf + 1]? = some n) (L : LogAt w' G ⟨limit, width, sh + 1, op, turn, ws.drop n⟩ F') (hc : Chg F wr w') (hF : ∀ k i, F' k i → F k i) :
    SBk base G w0 w' limit width (k + 1) (lf + 1) sh op turn (ws.drop n) F' A c sz := by
  obtain ⟨t1, t2, t3⟩ := h.turned hc
  have hln := h.hlen
  have hd : sz.drop (lf + 1) = n :: sz.drop (lf + 2) := by
    rw [List.drop_eq_getElem_cons (by omega)]
    rw [List.getElem?_eq_getElem (by omega)] at hn
    cases hn
    rfl
  have hlay := h.lay
  rw [hd, layers, List.append_assoc] at hlay
  refine ⟨t1, t2, L, t3, fun j i hj => h.fF j i (hF j i hj), fun j i hj => ⟨(h.fI j i hj).1, fun hf => (h.fI j i hj).2 (hF j i hf)⟩, h.hlen, hlt, ?_, fun m hm => h.pos m (by rw [hd]; exact List.mem_cons_of_mem _ hm), h.f1, by have := h.l1; rw [List.length_drop]; omega, Nat.le_succ_of_le h.t1, Nat.le_succ_of_le h.s1⟩
  rw [List.map_drop, hlay, List.drop_left' (by simp)]
  rfl
/-- what the first write's epoch is -/
theorem SBk.first (h : SBk base G w0 wr limit width k lf sh op turn ws F A c sz) : (lf = sh ∧ op = 0 ∧ ws = []) ∨ (lf = sh ∧ 0 < op ∧ ∃ x xs, ws = x :: xs ∧ x.ep = (sh : Int) + 1) ∨ (lf < sh ∧ ∃ x xs, ws = x :: xs ∧ x.ep = (lf : Int) + 1) := by
  have hle := h.le
  rcases Nat.lt_or_ge lf sh with hlt | hge
  · refine .inr (.inr ⟨hlt, ?_⟩)
    obtain ⟨n, _, x, xs, h1, _, h2, _⟩ := h.bar hlt
    exact ⟨x, xs, h1, h2⟩
  · obtain rfl : lf = sh := by omega
    have hlay := h.lay
    rw [List.drop_eq_nil_of_le (by have := h.hlen; omega)] at hlay
    rcases Nat.eq_zero_or_pos op with h0 | h0
    · subst h0
      exact .inl ⟨rfl, rfl, by simpa [layers] using hlay⟩
    · refine .inr (.inl ⟨rfl, h0, ?_⟩)
      obtain ⟨m, rfl⟩ : ∃ m, op = m + 1 := ⟨op - 1, by omega⟩
      rw [layers, List.nil_append, List.replicate_succ] at hlay
      cases hw : ws with
      | nil => rw [hw] at hlay; cases hlay
      | cons x xs => rw [hw] at hlay; exact ⟨x, xs, rfl, (List.cons.inj hlay).1⟩
end
end Go.Proofs.Ytagkhhoimgighaa
