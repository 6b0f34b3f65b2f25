/- The Lru of package actlog, keys texts: how its memory turns. No walk. -/
import Derived.Test.YtiidheknlacioaaLruNS
import Derived.Shelf.SlicesE.DeleteFunc
namespace Go.Proofs.Ytiidheknlacioaa.KS
open Go.RowKit
set_option linter.unusedVariables false
set_option linter.unusedSimpArgs false
structure LruR (w : World) (G : Nat) (ps : List Plc) (idle : List Nat) (f : Int → Option Nat) (gp b n : Nat) (Ai : Option Addr) (ci : Nat) : Prop where
  blk : Blk w G 128 #[.slice (some ⟨gp, 0, none⟩) ps.length ps.length, .map (some b), .slice Ai idle.length ci]
  row : GSl encPl 3 195 w (some ⟨gp, 0, none⟩) ps.length ps
  map : IMap Try.prog 9 kL kOk w b n f
  idl : GSl encN 1 3 w Ai ci idle
section
variable {w w' w2 : World} {G N gp b n ci ci' : Nat} {s : LruS} {F F' : Nat → Nat → Prop} {Ai Ai' : Option Addr} {ps : List Plc} {idle idle' : List Nat} {f : Int → Option Nat}
theorem LruIn.raw (h : LruIn w G s gp b n Ai ci) : LruR w G s.ps s.idle (slotS s) gp b n Ai ci := ⟨h.blk, h.row, h.map, h.idl⟩
theorem LruR.lru (h : LruR w G s.ps s.idle f gp b n Ai ci) (hf : f = slotS s) (ok : LruOk s) (oks : ∀ (i : Nat) (k r : Int), s.ps[i]? = some (some (k, r)) → kOk k) (hl : 1 ≤ s.ps.length ∧ s.ps.length ≤ 16) : LruIn w G s gp b n Ai ci :=
  ⟨h.blk, h.row, by rw [← hf]; exact h.map, h.idl, ok, oks, hl⟩
theorem LruR.rowB (h : LruR w G ps idle f gp b n Ai ci) : ∃ cs, Blk w gp 195 cs := by
  rcases h.row with ⟨h, _⟩ | ⟨g, o, cs, e, _, _, hb, _⟩
  · cases h
  · cases e; exact ⟨cs, hb⟩
theorem LruR.ne_row (h : LruR w G ps idle f gp b n Ai ci) : gp ≠ G ∧ gp ≠ b ∧ ∀ i, ¬ slFp 1 Ai 0 ci gp i := by
  obtain ⟨cs, hb⟩ := h.rowB
  exact ⟨hb.ne_ h.blk (by decide), h.map.not_cells hb, fun i hs => absurd (slFp_type h.idl hs hb) (by decide)⟩
theorem LruR.ne_blk (h : LruR w G ps idle f gp b n Ai ci) : G ≠ b ∧ ∀ i, ¬ slFp 1 Ai 0 ci G i :=
  ⟨h.map.not_cells h.blk, fun i hs => absurd (slFp_type h.idl hs h.blk) (by decide)⟩
theorem LruR.ne_map (h : LruR w G ps idle f gp b n Ai ci) : ∀ i, ¬ slFp 1 Ai 0 ci b i := fun i hs => by
  obtain ⟨cs, hb⟩ := slFp_cells h.idl hs
  exact h.map.not_cells hb rfl
theorem LruR.chg (h : LruR w G ps idle f gp b n Ai ci) (hc : Chg F' w w') (hn : ∀ k i, lruFp G gp b Ai ci k i → ¬ F' k i) : LruR w' G ps idle f gp b n Ai ci :=
  ⟨hc.blk h.blk fun i => hn _ _ (.inl rfl), h.row.chg hc encPl_len fun g i ⟨o, ho, h1, h2⟩ => by cases ho; exact hn _ _ (.inr (.inl rfl)), h.map.chg hc fun i => hn _ _ (.inr (.inr (.inl rfl))),
   h.idl.chg hc encN_len fun g i hs => hn _ _ (.inr (.inr (.inr (slFp_len h.idl hs))))⟩
theorem LruR.fp_lt (h : LruR w G ps idle f gp b n Ai ci) {k i : Nat} (hk : lruFp G gp b Ai ci k i) : k < w.heap.size := by
  rcases hk with rfl | rfl | rfl | hs
  · exact h.blk.lt
  · obtain ⟨cs, hb⟩ := h.rowB; exact hb.lt
  · exact h.map.lt
  · exact slFp_lt h.idl hs
theorem LruR.high (h : LruR w G ps idle f gp b n Ai ci) {m : Nat} (hm : w.heap.size ≤ m) (hc : Chg (fun k _ => m ≤ k) w w') : LruR w' G ps idle f gp b n Ai ci := h.chg hc fun k i hk hle => by have := h.fp_lt hk; omega
theorem LruR.cells (h : LruR w G ps idle f gp b n Ai ci) : w.cell? ⟨G, 0, none⟩ = some (.slice (some ⟨gp, 0, none⟩) ps.length ps.length) ∧ w.cell? ⟨G, 1, none⟩ = some (.map (some b)) ∧ w.cell? ⟨G, 2, none⟩ = some (.slice Ai idle.length ci) :=
  ⟨h.blk.cell 0, h.blk.cell 1, h.blk.cell 2⟩
theorem LruR.plc (h : LruR w G ps idle f gp b n Ai ci) {i : Nat} {p : Plc} (hp : ps[i]? = some p) : ∀ j v, (encPl p)[j]? = some v → w.cell? ⟨gp, i * 3 + j, none⟩ = some v ∧ w.frozen? ⟨gp, i * 3 + j, none⟩ = false := by
  obtain ⟨g, o, e, _, hc⟩ := h.row.cell hp
  cases e
  intro j v hv
  have := hc j v hv
  rwa [Nat.zero_add] at this
/-- a place's references turn -/
theorem LruR.refs (h : LruR w G ps idle f gp b n Ai ci) {i : Nat} {k r : Int} (hi : ps[i]? = some (some (k, r))) (r' : Int) : LruR (w.setCell ⟨gp, i * 3 + 1, none⟩ (.int .i64 r')) G (ps.set i (some (k, r'))) idle f gp b n Ai ci := by
  have hc := Chg.setCell (fun k _ => k = gp) w (g := gp) (i := i * 3 + 1) rfl (.int .i64 r')
  obtain ⟨n1, n2, n3⟩ := h.ne_row
  have hr := h.row.setAt encPl_len (i := i) (j := 1) (y := some (k, r')) (u := .int .i64 r') hi (by decide) rfl
  rw [Nat.zero_add] at hr
  refine ⟨?_, ?_, h.map.chg hc fun _ e => n2 e.symm, h.idl.chg hc encN_len fun g j hs e => by subst e; exact n3 j (slFp_len h.idl hs)⟩
  · rw [List.length_set]; exact hc.blk h.blk fun _ e => n1 e.symm
  · rw [List.length_set]; exact hr
/-- a place is written -/
theorem LruR.plcSet (h : LruR w G ps idle f gp b n Ai ci) {i : Nat} (hi : i < ps.length) (p : Plc) : LruR (w.setCells gp (i * 3) (encPl p)) G (ps.set i p) idle f gp b n Ai ci ∧ w.there gp (i * 3) 3 ∧ Chg (fun k _ => k = gp) w (w.setCells gp (i * 3) (encPl p)) := by
  have hc := setCells_chg (fun k _ => k = gp) (encPl p) (i * 3) w gp fun _ _ _ => rfl
  obtain ⟨n1, n2, n3⟩ := h.ne_row
  obtain ⟨hr, ht, _⟩ := h.row.setEl encPl_len hi p
  rw [Nat.zero_add] at hr ht
  refine ⟨⟨?_, ?_, h.map.chg hc fun _ e => n2 e.symm, h.idl.chg hc encN_len fun g j hs e => by subst e; exact n3 j (slFp_len h.idl hs)⟩, ht, hc⟩
  · rw [List.length_set]; exact hc.blk h.blk fun _ e => n1 e.symm
  · rw [List.length_set]; exact hr
/-- the map has turned -/
theorem LruR.mapT (h : LruR w G ps idle f gp b n Ai ci) {f' : Int → Option Nat} {n' : Nat} (hm : IMap Try.prog 9 kL kOk w' b n' f') (hg : w.grownBy w' (some b)) : LruR w' G ps idle f' gp b n' Ai ci := by
  have hc := Chg.of_imap (F := fun k _ => k = b) h.map hg rfl
  refine ⟨hc.blk h.blk fun _ e => h.ne_blk.1 e, h.row.chg hc encPl_len fun g i ⟨o, ho, _⟩ e => by cases ho; exact h.ne_row.2.1 e, hm, h.idl.chg hc encN_len fun g j hs e => by subst e; exact h.ne_map j (slFp_len h.idl hs)⟩
/-- the idle ones have turned, and their slice is written -/
theorem LruR.idleT (h : LruR w G ps idle f gp b n Ai ci) (hc : Chg (fun k i => slFp 1 Ai 0 ci k i ∨ w.heap.size ≤ k) w w2) (g : GSl encN 1 3 w2 Ai' ci' idle') (hA : ∀ k i, slFp 1 Ai' 0 ci' k i → slFp 1 Ai 0 ci k i ∨ w.heap.size ≤ k) :
    LruR (w2.setCell ⟨G, 2, none⟩ (.slice Ai' idle'.length ci')) G ps idle' f gp b n Ai' ci' := by
  have hk := Chg.setCell (fun k _ => k = G) w2 (g := G) (i := 2) rfl (.slice Ai' idle'.length ci')
  obtain ⟨n1, n2, n3⟩ := h.ne_row
  obtain ⟨m1, m2⟩ := h.ne_blk
  have b2 : Blk w2 G 128 #[.slice (some ⟨gp, 0, none⟩) ps.length ps.length, .map (some b), .slice Ai idle.length ci] := hc.blk h.blk fun i e => e.elim (m2 i) fun e => by have := h.blk.lt; omega
  have hrow : ∀ g i, slFp 3 (some ⟨gp, 0, none⟩) 0 ps.length g i → g = gp := fun g i ⟨o, ho, _⟩ => by cases ho; rfl
  refine ⟨b2.set_ 2 _, ?_, ?_, ?_⟩
  · refine (h.row.chg hc encPl_len fun g i hs e => ?_).chg hk encPl_len fun g i hs e => by have := hrow g i hs; omega
    obtain rfl := hrow g i hs
    obtain ⟨cs, hb⟩ := h.rowB
    exact e.elim (n3 i) fun e => by have := hb.lt; omega
  · exact (h.map.chg hc fun i e => e.elim (h.ne_map i) fun e => by have := h.map.lt; omega).chg hk fun _ e => m1 e.symm
  · refine g.chg hk encN_len fun k i hs e => ?_
    subst e
    rcases hA k i (slFp_len g hs) with e | e
    · exact m2 i e
    · have := h.blk.lt; omega

/-! ### what the map tells behind a call -/
theorem slot_congr {s s' : LruS} (h : LruOk s) (h' : LruOk s') {k : Int} (he : ∀ i : Nat, (∃ r, s.ps[i]? = some (some (k, r))) ↔ ∃ r, s'.ps[i]? = some (some (k, r))) : slotS s k = slotS s' k := by
  cases hs : slotS s k with
  | none =>
    cases hs' : slotS s' k with
    | none => rfl
    | some i => obtain ⟨r, hr⟩ := (he i).2 ⟨_, (slotS_some hs').1⟩; exact absurd hr (slotS_none hs i r)
  | some i => obtain ⟨r, hr⟩ := (he i).1 ⟨_, (slotS_some hs).1⟩; exact (slotS_at h' hr).symm
theorem slotS_same {s s' : LruS} (h : LruOk s) (h' : LruOk s') {i : Nat} {k r r' : Int} (hi : s.ps[i]? = some (some (k, r))) (hp : s'.ps = s.ps.set i (some (k, r'))) : slotS s = slotS s' := by
  have hlt := (List.getElem?_eq_some_iff.1 hi).1
  funext q
  refine slot_congr h h' fun j => ?_
  rw [hp]
  by_cases e : j = i
  · subst e
    rw [hi, getElem?_set_at _ hlt]
    constructor
    · rintro ⟨x, hx⟩; simp only [Option.some.injEq, Prod.mk.injEq] at hx; exact ⟨r', by rw [hx.1]⟩
    · rintro ⟨x, hx⟩; simp only [Option.some.injEq, Prod.mk.injEq] at hx; exact ⟨r, by rw [hx.1]⟩
  · rw [getElem?_set_ne _ e]
theorem slotS_fresh {s s' : LruS} (h : LruOk s) (h' : LruOk s') {i : Nat} {key : Int} (hi : s.ps[i]? = some none) (hp : s'.ps = s.ps.set i (some (key, 1))) : setP (slotS s) key (some i) = slotS s' := by
  have hlt := (List.getElem?_eq_some_iff.1 hi).1
  funext q
  unfold setP
  by_cases e : q = key
  · subst e
    rw [if_pos rfl]
    exact (slotS_at h' (r := 1) (by rw [hp, getElem?_set_at _ hlt])).symm
  · rw [if_neg e]
    refine slot_congr h h' fun j => ?_
    rw [hp]
    by_cases e2 : j = i
    · subst e2
      rw [hi, getElem?_set_at _ hlt]
      constructor
      · rintro ⟨x, hx⟩; cases hx
      · rintro ⟨x, hx⟩; simp only [Option.some.injEq, Prod.mk.injEq] at hx; exact absurd hx.1.symm e
    · rw [getElem?_set_ne _ e2]
theorem slotS_evict {s s' : LruS} (h : LruOk s) (h' : LruOk s') {i : Nat} {key old r : Int} (hne : old ≠ key) (hi : s.ps[i]? = some (some (old, r))) (hp : s'.ps = s.ps.set i (some (key, 1))) : setP (setP (slotS s) old none) key (some i) = slotS s' := by
  have hlt := (List.getElem?_eq_some_iff.1 hi).1
  funext q
  unfold setP
  by_cases e : q = key
  · subst e
    rw [if_pos rfl]
    exact (slotS_at h' (r := 1) (by rw [hp, getElem?_set_at _ hlt])).symm
  · rw [if_neg e]
    by_cases e1 : q = old
    · subst e1
      rw [if_pos rfl]
      cases hs : slotS s' q with
      | none => rfl
      | some j =>
        have h3 := (slotS_some hs).1
        rw [hp] at h3
        rcases getElem?_set_ h3 with ⟨_, e3, _⟩ | ⟨e2, h4⟩
        · simp only [Option.some.injEq, Prod.mk.injEq] at e3; exact absurd e3.1 e
        · exact absurd (h.keys _ _ _ _ _ h4 hi) e2
    · rw [if_neg e1]
      refine slot_congr h h' fun j => ?_
      rw [hp]
      by_cases e2 : j = i
      · subst e2
        rw [hi, getElem?_set_at _ hlt]
        constructor
        · rintro ⟨x, hx⟩; simp only [Option.some.injEq, Prod.mk.injEq] at hx; exact absurd hx.1.symm e1
        · rintro ⟨x, hx⟩; simp only [Option.some.injEq, Prod.mk.injEq] at hx; exact absurd hx.1.symm e
      · rw [getElem?_set_ne _ e2]
theorem oks_set {l : List Plc} {i : Nat} {x : Int × Int} (h : ∀ (i : Nat) (k r : Int), l[i]? = some (some (k, r)) → kOk k) (hx : kOk x.1) : ∀ (j : Nat) (k r : Int), (l.set i (some x))[j]? = some (some (k, r)) → kOk k := fun j k r hj => by
  rcases getElem?_set_ hj with ⟨_, e, _⟩ | ⟨_, e⟩
  · cases e; exact hx
  · exact h _ _ _ e
/-- the first elements of a row that was written anew -/
theorem GSl.putRow_ {w : World} {g o c q : Nat} {l l' : List Nat} {X : Array Nat} (h : GSl encN 1 3 w (some ⟨g, o, none⟩) c l) (hX : X.size = l.length) (hl : ∀ (i x : Nat), l'[i]? = some x → X[i]? = some x) (hlen : l'.length ≤ l.length) (h0 : 0 < l.length) :
    GSl encN 1 3 (Go.Sort.putRow (fun n : Nat => Value.int .i64 n) (Go.Sort.ahead w q) g o X) (some ⟨g, o, none⟩) c l' ∧ Chg (slFp 1 (some ⟨g, o, none⟩) 0 c) w (Go.Sort.putRow (fun n : Nat => Value.int .i64 n) (Go.Sort.ahead w q) g o X) := by
  rcases h with ⟨h, _⟩ | ⟨g', o', cs, e, k1, k2, k3, k4, k5⟩
  · cases h
  cases e
  have hb : (Go.Sort.putRow (fun n : Nat => Value.int .i64 n) (Go.Sort.ahead w q) g o X).heap[g]? = some (.cells (Go.Sort.putCells (fun n : Nat => Value.int .i64 n) o X cs) 3 (0, 0)) := by
    unfold Go.Sort.putRow Go.Sort.mapBlock Go.Sort.ahead
    simp only [Array.getElem?_modify, if_true, k3, Option.map_some]
    rfl
  have hcl : ∀ k, (Go.Sort.putCells (fun n : Nat => Value.int .i64 n) o X cs)[k]? = (cs[k]?).map fun x => if o ≤ k ∧ k < o + X.size then Value.int .i64 ((X[k - o]! : Nat) : Int) else x := fun k => by
    unfold Go.Sort.putCells
    rw [Array.getElem?_mapIdx]
  refine ⟨.inr ⟨g, o, _, rfl, by omega, k2, hb, by simpa [Go.Sort.putCells] using k4, fun i x hx j v hv => ?_⟩, ⟨rfl, rfl, rfl, by simp [Go.Sort.putRow, Go.Sort.mapBlock, Go.Sort.ahead], fun k hk hn => ?_, fun k cs2 t fr hk => ?_⟩⟩
  · have hi := (List.getElem?_eq_some_iff.1 hx).1
    have hj := (List.getElem?_eq_some_iff.1 hv).1
    rw [encN_len] at hj
    obtain rfl : j = 0 := by omega
    have hv2 : v = .int .i64 (x : Int) := by simp [encN] at hv; exact hv.symm
    rw [hcl, Array.getElem?_eq_getElem (by omega), Option.map_some, if_pos ⟨by omega, by omega⟩, hv2]
    have hx2 := hl i x hx
    have hxi := (Array.getElem?_eq_some_iff.1 hx2).1
    rw [show o + (i * 1 + 0) - o = i by omega, getElem!_pos X i hxi]
    rw [Array.getElem?_eq_getElem hxi] at hx2
    rw [Option.some.inj hx2]
  · unfold Go.Sort.putRow Go.Sort.mapBlock Go.Sort.ahead
    have hne : g ≠ k := fun e => by
      subst e
      exact hn o ⟨o, rfl, by omega, by omega⟩
    simp [Array.getElem?_modify, hne]
  · by_cases e : k = g
    · subst e
      rw [k3] at hk
      cases hk
      refine ⟨_, hb, by simp [Go.Sort.putCells], fun i hn => ?_⟩
      rw [hcl]
      have : ¬ (o ≤ i ∧ i < o + X.size) := fun hh => hn ⟨o, rfl, by omega, by omega⟩
      simp only [if_neg this]
      cases cs[i]? <;> rfl
    · refine ⟨cs2, ?_, rfl, fun _ _ => rfl⟩
      unfold Go.Sort.putRow Go.Sort.mapBlock Go.Sort.ahead
      simp only [Array.getElem?_modify]
      rw [if_neg (fun h => e h.symm)]
      exact hk
end
end Go.Proofs.Ytiidheknlacioaa.KS
