/- TlogMoves and its kin: the document's log beside the program's, plain (no memory, no walk). -/
import Derived.Test.YtagkhhoimgighaaAck
namespace Go.Proofs.Ytagkhhoimgighaa
open Go.RowKit
set_option linter.unusedVariables false
set_option linter.unusedSimpArgs false

/-- a line of the document's log: number, block, epoch, acked -/
abbrev Ln := Int × Int × Int × Bool
def lnOf (x : Wr) : Ln := (x.id, x.blk, x.ep, x.acked)
def entOf (x : Ln) : Int × Int × Int := (x.1, x.2.1, x.2.2.1)
def entW (x : Wr) : Int × Int × Int := (x.id, x.blk, x.ep)
/-- the document's log -/
structure RefT where
  lines : List Ln
  now : Int
  limit : Int
  each : Int
def ofR (l : List Ln) (e : Int) : Nat := (l.filter fun x => x.2.2.1 == e).length
def posR (l : List Ln) (id : Int) : Option Nat := l.findIdx? fun x => x.1 == id
def rAddR (r : RefT) (id blk : Int) : Int := if id < 1 then 1 else if blk < 0 ∨ 4096 ≤ blk then 2 else if (posR r.lines id).isSome then 102 else if r.limit ≤ r.lines.length ∨ r.each ≤ ofR r.lines r.now then 4 else 0
def rAddT (r : RefT) (id blk : Int) : RefT := { r with lines := r.lines ++ [(id, blk, r.now, false)] }
def rCloseT (r : RefT) : RefT := if ofR r.lines r.now = 0 then r else { r with now := r.now + 1 }
def rAckR (r : RefT) (id : Int) : Int := match posR r.lines id with | none => 103 | some i => match r.lines[i]? with | none => 103 | some x => if x.2.2.2 then 102 else 0
def rAckE (r : RefT) (id : Int) : Int × Int × Int := match posR r.lines id with | none => (0, 0, 0) | some i => match r.lines[i]? with | none => (0, 0, 0) | some x => if x.2.2.2 then (0, 0, 0) else entOf x
def ackL (x : Ln) : Ln := (x.1, x.2.1, x.2.2.1, true)
def rAckT (r : RefT) (id : Int) : RefT := if rAckR r id = 0 then match posR r.lines id with | none => r | some i => { r with lines := r.lines.modify i ackL } else r
def rBarOk (r : RefT) (ep cnt : Int) : Prop := ∃ x l, r.lines = x :: l ∧ x.2.2.1 ≠ r.now ∧ x.2.2.1 = ep ∧ (ofR r.lines ep : Int) = cnt
def rBarO (r : RefT) (ep : Int) : List (Int × Int × Int) := (r.lines.filter fun x => x.2.2.1 == ep).map entOf
def rBarT (r : RefT) (ep : Int) : RefT := { r with lines := r.lines.filter fun x => !(x.2.2.1 == ep) }
def rFailO (r : RefT) : List (Int × Int × Int) := r.lines.map entOf
def rFailT (r : RefT) : RefT := { r with lines := [], now := 1 }

structure Sim (s : LogS) (r : RefT) : Prop where
  lines : r.lines = s.ws.map lnOf
  now : r.now = s.opn
  lim : r.limit = s.limit
  each : r.each = s.width
  fil : s.filled = ofR r.lines r.now
  ids : s.ws.Pairwise fun x y => x.id ≠ y.id
  ord : s.ws.Pairwise fun x y => x.ep ≤ y.ep
  top : ∀ x ∈ s.ws, 1 ≤ x.ep ∧ x.ep ≤ s.opn
  one : 1 ≤ s.opn
  gap : ∀ x ∈ s.ws, ∀ e, x.ep ≤ e → e < s.opn → ∃ y ∈ s.ws, y.ep = e
  tord : s.ws.Pairwise fun x y => x.turn < y.turn
  tmax : ∀ x ∈ s.ws, x.turn ≤ s.turn
theorem Sim.len {s : LogS} {r : RefT} (h : Sim s r) : r.lines.length = s.ws.length := by rw [h.lines, List.length_map]
theorem ofR_map (ws : List Wr) (e : Int) : ofR (ws.map lnOf) e = (ws.filter fun x => x.ep == e).length := by
  unfold ofR
  rw [List.filter_map, List.length_map]
  rfl
theorem posR_map (ws : List Wr) (id : Int) : posR (ws.map lnOf) id = ws.findIdx? fun x => x.id == id := by
  unfold posR
  induction ws with
  | nil => rfl
  | cons x ws ih => rw [List.map_cons, List.findIdx?_cons, List.findIdx?_cons, ih]; rfl
theorem posR_some {ws : List Wr} {id : Int} {i : Nat} (h : posR (ws.map lnOf) id = some i) : ∃ x, ws[i]? = some x ∧ x.id = id ∧ findO ws id = some x := by
  rw [posR_map] at h
  unfold findO
  induction ws generalizing i with
  | nil => simp at h
  | cons y ws ih =>
    rw [List.findIdx?_cons] at h
    by_cases e : y.id = id
    · rw [if_pos (by simpa using e)] at h
      cases h
      exact ⟨y, rfl, e, by rw [List.find?_cons_of_pos (by simpa using e)]⟩
    · rw [if_neg (by simpa using e)] at h
      obtain ⟨j, hj, rfl⟩ := Option.map_eq_some_iff.1 h
      obtain ⟨x, h1, h2, h3⟩ := ih hj
      exact ⟨x, by simpa using h1, h2, by rw [List.find?_cons_of_neg (by simpa using e)]; exact h3⟩
theorem posR_none {ws : List Wr} {id : Int} (h : posR (ws.map lnOf) id = none) : findO ws id = none := by
  rw [posR_map, List.findIdx?_eq_none_iff] at h
  exact List.find?_eq_none.2 fun x hx => by simpa using h x hx
section
variable {s : LogS} {r : RefT}
theorem Sim.pos (h : Sim s r) (id : Int) : (posR r.lines id).isSome = (findW s.ws id).isSome := by
  rw [h.lines, findO_W]
  cases hp : posR (s.ws.map lnOf) id with
  | none => rw [posR_none hp]; rfl
  | some i => obtain ⟨x, _, _, h3⟩ := posR_some hp; rw [h3]; rfl
theorem Sim.addR (h : Sim s r) (id blk : Int) : rAddR r id blk = addR s id blk := by
  unfold rAddR Go.Proofs.Ytagkhhoimgighaa.addR
  rw [h.pos, h.len, h.lim, h.each, h.fil]
theorem Sim.add (h : Sim s r) (id blk : Int) (g : Nat) (ha : Go.Proofs.Ytagkhhoimgighaa.addR s id blk = 0) : Sim (addS s id blk g) (rAddT r id blk) ∧ ((ofR (rAddT r id blk).lines r.now : Nat) : Int) = s.filled + 1 := by
  have hid : ∀ x ∈ s.ws, x.id ≠ id := by
    unfold Go.Proofs.Ytagkhhoimgighaa.addR at ha
    split at ha
    · cases ha
    split at ha
    · cases ha
    split at ha
    · cases ha
    · rename_i hn
      intro x hx e
      apply hn
      unfold findW
      rw [Option.isSome_map, List.find?_isSome]
      exact ⟨x, hx, by simpa using e⟩
  have hof : ofR (rAddT r id blk).lines r.now = ofR r.lines r.now + 1 := by
    unfold ofR rAddT
    simp
  refine ⟨⟨?_, h.now, h.lim, h.each, ?_, ?_, ?_, ?_, h.one, ?_, ?_, ?_⟩, ?_⟩
  · show r.lines ++ _ = (s.ws ++ _).map lnOf
    rw [List.map_append, h.lines, h.now]; rfl
  · show s.filled + 1 = _
    rw [show (rAddT r id blk).now = r.now from rfl, hof, h.fil]; rfl
  · show (s.ws ++ _).Pairwise _
    exact List.pairwise_append.2 ⟨h.ids, List.pairwise_singleton .., fun x hx y hy => by obtain rfl := List.mem_singleton.1 hy; exact hid x hx⟩
  · show (s.ws ++ _).Pairwise _
    exact List.pairwise_append.2 ⟨h.ord, List.pairwise_singleton .., fun x hx y hy => by obtain rfl := List.mem_singleton.1 hy; exact (h.top x hx).2⟩
  · intro x hx
    rcases List.mem_append.1 hx with hx | hx
    · exact h.top x hx
    · obtain rfl := List.mem_singleton.1 hx
      exact ⟨h.one, Int.le_refl _⟩
  · intro x hx e h1 h2
    have h2 : e < s.opn := h2
    rcases List.mem_append.1 hx with hx | hx
    · obtain ⟨y, hy, he⟩ := h.gap x hx e h1 h2
      exact ⟨y, List.mem_append_left _ hy, he⟩
    · obtain rfl := List.mem_singleton.1 hx
      dsimp only at h1
      omega
  · show (s.ws ++ _).Pairwise _
    exact List.pairwise_append.2 ⟨h.tord, List.pairwise_singleton .., fun x hx y hy => by obtain rfl := List.mem_singleton.1 hy; exact Nat.lt_succ_of_le (h.tmax x hx)⟩
  · intro x hx
    rcases List.mem_append.1 hx with hx | hx
    · exact Nat.le_succ_of_le (h.tmax x hx)
    · obtain rfl := List.mem_singleton.1 hx
      exact Nat.le_refl _
  · rw [hof, h.fil]; rfl
theorem Sim.close (h : Sim s r) : Sim (closeS s) (rCloseT r) := by
  unfold closeS rCloseT
  have hf := h.fil
  by_cases h0 : s.filled = 0
  · rw [if_pos h0, if_pos (by omega)]; exact h
  · rw [if_neg h0, if_neg (by omega)]
    refine ⟨h.lines, by show r.now + 1 = s.opn + 1; rw [h.now], h.lim, h.each, ?_, h.ids, h.ord, fun x hx => ⟨(h.top x hx).1, by have := (h.top x hx).2; show x.ep ≤ s.opn + 1; omega⟩, by have := h.one; show 1 ≤ s.opn + 1; omega, fun x hx e h1 h2 => ?_, h.tord, h.tmax⟩
    · show (0 : Int) = (ofR r.lines (r.now + 1) : Nat)
      rw [h.lines, ofR_map, List.filter_eq_nil_iff.2 fun x hx => by have := (h.top x hx).2; rw [h.now]; simp; omega]
      rfl
    · have h2 : e < s.opn + 1 := h2
      by_cases e1 : e < s.opn
      · exact h.gap x hx e h1 e1
      · obtain rfl : e = s.opn := by omega
        rw [h.lines, ofR_map, h.now] at hf
        have hp : 0 < (s.ws.filter fun x => x.ep == s.opn).length := by omega
        obtain ⟨y, hy⟩ := List.exists_mem_of_length_pos hp
        rw [List.mem_filter] at hy
        exact ⟨y, hy.1, by simpa using hy.2⟩
theorem Sim.ack_eq (h : Sim s r) (id : Int) : rAckR r id = ackR s id ∧ rAckE r id = ackE s id := by
  unfold rAckR rAckE ackR ackE
  rw [h.lines]
  cases hp : posR (s.ws.map lnOf) id with
  | none => rw [posR_none hp]; exact ⟨rfl, rfl⟩
  | some i =>
    obtain ⟨x, h1, h2, h3⟩ := posR_some hp
    rw [h3]
    dsimp only
    rw [List.getElem?_map, h1]
    exact ⟨rfl, rfl⟩
theorem ack_map {ws : List Wr} (hd : ws.Pairwise fun x y => x.id ≠ y.id) {i : Nat} {x : Wr} (hx : ws[i]? = some x) : (ws.map lnOf).modify i ackL = (ws.map (ackW x.id)).map lnOf := by
  induction ws generalizing i with
  | nil => simp at hx
  | cons y ws ih =>
    rw [List.pairwise_cons] at hd
    cases i with
    | zero =>
      cases hx
      rw [List.map_cons, List.modify_zero_cons, List.map_cons, List.map_cons]
      congr 1
      · unfold ackW; rw [if_pos rfl]; rfl
      · rw [List.map_map]
        refine (List.map_congr_left fun z hz => ?_)
        show lnOf z = lnOf (ackW x.id z)
        unfold ackW
        rw [if_neg (fun e => hd.1 z hz e.symm)]
    | succ i =>
      have hx' : ws[i]? = some x := by simpa using hx
      rw [List.map_cons, List.modify_succ_cons, ih hd.2 hx', List.map_cons, List.map_cons]
      congr 1
      unfold ackW
      rw [if_neg (fun e => hd.1 x (List.mem_of_getElem? hx') e)]
theorem ackW_turn (id : Int) (x : Wr) : (ackW id x).turn = x.turn := by unfold ackW; split <;> rfl
theorem Sim.acked (h : Sim s r) (id : Int) (l : List Ln) (hl : l = (s.ws.map (ackW id)).map lnOf) : Sim (ackS s id) { r with lines := l } := by
  subst hl
  unfold ackS
  refine ⟨rfl, h.now, h.lim, h.each, ?_, ?_, ?_, ?_, h.one, ?_, ?_, ?_⟩
  · show s.filled = _
    rw [h.fil, h.lines, ofR_map, ofR_map, List.filter_map, List.length_map]
    congr 2
    refine List.filter_congr fun x _ => ?_
    show _ = ((ackW id x).ep == _)
    rw [ackW_ep]
  · exact List.pairwise_map.2 (h.ids.imp fun hh => by rw [ackW_id, ackW_id]; exact hh)
  · exact List.pairwise_map.2 (h.ord.imp fun hh => by rw [ackW_ep, ackW_ep]; exact hh)
  · intro x hx
    obtain ⟨y, hy, rfl⟩ := List.mem_map.1 hx
    rw [ackW_ep]
    exact h.top y hy
  · intro x hx e h1 h2
    obtain ⟨y, hy, rfl⟩ := List.mem_map.1 hx
    rw [ackW_ep] at h1
    obtain ⟨z, hz, he⟩ := h.gap y hy e h1 h2
    exact ⟨ackW id z, List.mem_map_of_mem hz, by rw [ackW_ep]; exact he⟩
  · exact List.pairwise_map.2 (h.tord.imp fun hh => by rw [ackW_turn, ackW_turn]; exact hh)
  · intro x hx
    obtain ⟨y, hy, rfl⟩ := List.mem_map.1 hx
    rw [ackW_turn]
    exact h.tmax y hy
theorem Sim.ack (h : Sim s r) (id : Int) : Sim (ackT s id) (rAckT r id) := by
  obtain ⟨e1, _⟩ := h.ack_eq id
  unfold ackT rAckT
  rw [e1]
  by_cases h0 : ackR s id = 0
  · rw [if_pos h0, if_pos h0]
    cases hp : posR r.lines id with
    | none =>
      rw [h.lines] at hp
      unfold ackR at h0
      rw [posR_none hp] at h0
      cases h0
    | some i =>
      have hp' := hp
      rw [h.lines] at hp'
      obtain ⟨x, h1, h2, h3⟩ := posR_some hp'
      dsimp only
      refine h.acked id _ ?_
      rw [h.lines, ← h2]
      exact ack_map h.ids h1
  · rw [if_neg h0, if_neg h0]; exact h
/-- sorted by epochs: the first epoch's writes stand in front -/
theorem lead_filter {l : List Wr} (ho : l.Pairwise fun x y => x.ep ≤ y.ep) {e : Int} (hm : ∀ x ∈ l, e ≤ x.ep) : (l.filter fun x => x.ep == e) = l.take (lead l e) ∧ (l.filter fun x => !(x.ep == e)) = l.drop (lead l e) := by
  unfold lead
  induction l with
  | nil => exact ⟨rfl, rfl⟩
  | cons y l ih =>
    rw [List.pairwise_cons] at ho
    obtain ⟨i1, i2⟩ := ih ho.2 fun x hx => hm x (List.mem_cons_of_mem _ hx)
    by_cases he : y.ep = e
    · have t : (y.ep == e) = true := by simpa using he
      rw [List.takeWhile_cons_of_pos (by simpa using he), List.filter_cons_of_pos (by simpa using he), List.filter_cons_of_neg (by simp [t]), List.length_cons, List.take_succ_cons, List.drop_succ_cons, i1, i2]
      exact ⟨rfl, rfl⟩
    · have t : (y.ep == e) = false := by simpa using he
      have hge := hm y (List.mem_cons_self ..)
      rw [List.takeWhile_cons_of_neg (by simp [t]), List.filter_cons_of_neg (by simp [t]), List.filter_cons_of_pos (by simp [t])]
      have hn : ∀ x ∈ l, (x.ep == e) = false := fun x hx => by have := ho.1 x hx; rw [beq_eq_false_iff_ne]; omega
      rw [List.filter_eq_nil_iff.2 fun x hx => by simp [hn x hx], List.filter_eq_self.2 fun x hx => by simp [hn x hx]]
      exact ⟨rfl, rfl⟩
theorem Sim.min (h : Sim s r) {x : Wr} {l : List Wr} (hw : s.ws = x :: l) : ∀ y ∈ s.ws, x.ep ≤ y.ep := fun y hy => by
  have ho := h.ord
  rw [hw] at hy ho
  rw [List.pairwise_cons] at ho
  rcases List.mem_cons.1 hy with rfl | hy
  · exact Int.le_refl _
  · exact ho.1 y hy
theorem Sim.ofFirst (h : Sim s r) {x : Wr} {l : List Wr} (hw : s.ws = x :: l) : ofR r.lines x.ep = lead s.ws x.ep := by
  rw [h.lines, ofR_map, (lead_filter h.ord (h.min hw)).1, List.length_take, Nat.min_eq_left (lead_le _ _)]
theorem Sim.bar_ok (h : Sim s r) (ep cnt : Int) : rBarOk r ep cnt ↔ barOk s ep cnt := by
  unfold rBarOk barOk
  rw [h.lines, h.now]
  constructor
  · rintro ⟨y, l, h1, h2, h3, h4⟩
    obtain ⟨x, l', e1, rfl, e2⟩ := List.map_eq_cons_iff.1 h1
    refine ⟨x, l', e1, h2, h3, ?_⟩
    have h3 : x.ep = ep := h3
    rw [← h.lines] at h4
    rw [← h3] at h4 ⊢
    rw [← h.ofFirst e1]
    exact h4
  · rintro ⟨x, l, h1, h2, h3, h4⟩
    refine ⟨lnOf x, l.map lnOf, by rw [h1]; rfl, h2, h3, ?_⟩
    rw [← h.lines]
    rw [← h3] at h4 ⊢
    rw [h.ofFirst h1]
    exact h4
theorem Sim.bar_out (h : Sim s r) {ep cnt : Int} (hb : barOk s ep cnt) : rBarO r ep = (s.ws.take (lead s.ws ep)).map entW := by
  obtain ⟨x, l, h1, h2, rfl, h4⟩ := hb
  unfold rBarO
  rw [← (lead_filter h.ord (h.min h1)).1, h.lines, List.filter_map, List.map_map]
  rfl
theorem Sim.bar (h : Sim s r) {ep cnt : Int} (hb : barOk s ep cnt) : Sim { s with ws := s.ws.drop (lead s.ws ep) } (rBarT r ep) := by
  obtain ⟨x, l, h1, h2, rfl, h4⟩ := hb
  have hmin := h.min h1
  obtain ⟨f1, f2⟩ := lead_filter h.ord hmin
  have hsub := List.drop_sublist (lead s.ws x.ep) s.ws
  have hne : x.ep < s.opn := by
    have := (h.top x (by rw [h1]; exact List.mem_cons_self ..)).2
    omega
  have hlines : (r.lines.filter fun y => !(y.2.2.1 == x.ep)) = (s.ws.drop (lead s.ws x.ep)).map lnOf := by
    rw [h.lines, List.filter_map, ← f2]; rfl
  refine ⟨hlines, h.now, h.lim, h.each, ?_, h.ids.sublist hsub, h.ord.sublist hsub, fun y hy => h.top y (List.mem_of_mem_drop hy), h.one, fun y hy e g1 g2 => ?_, h.tord.sublist hsub, fun y hy => h.tmax y (List.mem_of_mem_drop hy)⟩
  · show s.filled = (ofR (r.lines.filter fun y => !(y.2.2.1 == x.ep)) r.now : Nat)
    rw [h.fil]
    unfold ofR
    rw [List.filter_filter]
    congr 2
    refine List.filter_congr fun y hy => ?_
    rw [h.now]
    by_cases e : y.2.2.1 = s.opn
    · have t1 : (y.2.2.1 == s.opn) = true := by simpa using e
      have t2 : (y.2.2.1 == x.ep) = false := by rw [beq_eq_false_iff_ne]; omega
      rw [t1, t2]; rfl
    · have t1 : (y.2.2.1 == s.opn) = false := by simpa using e
      rw [t1]; rfl
  · have hy2 : y ∈ s.ws.filter fun z => !(z.ep == x.ep) := by rw [f2]; exact hy
    rw [List.mem_filter] at hy2
    obtain ⟨z, hz, he⟩ := h.gap y hy2.1 e g1 g2
    refine ⟨z, ?_, he⟩
    show z ∈ s.ws.drop _
    rw [← f2, List.mem_filter]
    refine ⟨hz, ?_⟩
    have a1 := hmin y hy2.1
    have a2 : y.ep ≠ x.ep := by simpa using hy2.2
    simp
    omega
theorem Sim.fail_out (h : Sim s r) : rFailO r = s.ws.map entW := by
  unfold rFailO
  rw [h.lines, List.map_map]; rfl
theorem Sim.fail (h : Sim s r) : Sim (failS s) (rFailT r) :=
  ⟨rfl, rfl, h.lim, h.each, rfl, List.Pairwise.nil, List.Pairwise.nil, (fun x hx => by cases hx), Int.le_refl _, (fun x hx => by cases hx), List.Pairwise.nil, (fun x hx => by cases hx)⟩
theorem Sim.made (limit width : Int) : Sim (newS limit width) ⟨[], 1, limit, width⟩ :=
  ⟨rfl, rfl, rfl, rfl, rfl, List.Pairwise.nil, List.Pairwise.nil, (fun x hx => by cases hx), Int.le_refl _, (fun x hx => by cases hx), List.Pairwise.nil, (fun x hx => by cases hx)⟩
end
end Go.Proofs.Ytagkhhoimgighaa
