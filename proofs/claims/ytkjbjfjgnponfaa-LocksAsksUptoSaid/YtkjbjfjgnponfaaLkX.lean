/- The document's table of locks (plain laws): one list of all places. -/
import Derived.Test.YtkjbjfjgnponfaaLkW
namespace Go.Proofs.Ytkjbjfjgnponfaa
open Go.RowKit
set_option linter.unusedSimpArgs false
set_option linter.unusedVariables false
/-- a place: extent, mode, owner, held, turn -/
abbrev RP := Int × Int × Int × Bool × Int
def encR (p : RP) : List Value := [.int .i64 p.1, .int .i64 p.2.1, .int .i64 p.2.2.1, .bool p.2.2.2.1, .int .i64 p.2.2.2.2]
def plR (p : RP) : Pl := (p.2.2.1, p.2.1)
def waitB (x : Int) (p : RP) : Bool := p.1 == x && !p.2.2.2.1
def heldB (x : Int) (p : RP) : Bool := p.1 == x && p.2.2.2.1
def ownB (x o : Int) (p : RP) : Bool := p.1 == x && p.2.2.1 == o
def idxI (l : List RP) (f : RP → Bool) : Int := match l.findIdx? f with | some i => (i : Int) | none => -1
theorem idxI_ge {l : List RP} {f : RP → Bool} (h : 0 ≤ idxI l f) : ∃ i p, idxI l f = ((i : Nat) : Int) ∧ l.findIdx? f = some i ∧ l[i]? = some p ∧ f p = true := by
  unfold idxI at h ⊢
  cases hf : l.findIdx? f with
  | none => rw [hf] at h; simp at h
  | some i =>
    rw [List.findIdx?_eq_some_iff_getElem] at hf
    obtain ⟨hi, h1, _⟩ := hf
    exact ⟨i, l[i], rfl, rfl, List.getElem?_eq_getElem hi, h1⟩
theorem idxI_neg {l : List RP} {f : RP → Bool} (h : ¬ 0 ≤ idxI l f) : idxI l f = -1 ∧ ∀ p ∈ l, f p = false := by
  unfold idxI at h ⊢
  cases hf : l.findIdx? f with
  | none =>
    rw [List.findIdx?_eq_none_iff] at hf
    exact ⟨rfl, hf⟩
  | some i => rw [hf] at h; exact absurd (Int.natCast_nonneg i) h
theorem idxI_pos {l : List RP} {f : RP → Bool} {p : RP} (hp : p ∈ l) (h : f p = true) : 0 ≤ idxI l f := by
  apply Classical.byContradiction
  intro hn
  have := (idxI_neg hn).2 p hp
  rw [h] at this
  cases this
structure Sim (n : Nat) (L : Nat → List Pl) (P : List RP) (turns : Int) : Prop where
  ext : ∀ p ∈ P, ∃ x : Nat, x < n ∧ p.1 = (x : Int)
  wt : ∀ x : Nat, x < n → (P.filter (waitB (x : Int))).map plR = L (x * 2 + 1)
  hd : ∀ x : Nat, x < n → ∃ H : List RP, H.Perm (P.filter (heldB (x : Int))) ∧ H.Pairwise (fun p q => p.2.2.2.2 < q.2.2.2.2) ∧ H.map plR = L (x * 2)
  tn : ∀ p ∈ P, p.2.2.2.1 = true → 1 ≤ p.2.2.2.2 ∧ p.2.2.2.2 ≤ turns
  t0 : 0 ≤ turns
theorem Sim.nil_ (n : Nat) : Sim n (fun _ => []) [] 0 := ⟨fun _ h => by simp at h, fun _ _ => rfl, fun _ _ => ⟨[], List.Perm.refl _, List.Pairwise.nil, rfl⟩, fun _ h => by simp at h, by omega⟩
section
variable {n : Nat} {L : Nat → List Pl} {P : List RP} {turns : Int}
/-- who has a place at an extent -/
theorem Sim.mem (h : Sim n L P turns) {x : Nat} (hx : x < n) (o : Int) : (o ∈ (L (x * 2)).map (·.1) ∨ o ∈ (L (x * 2 + 1)).map (·.1)) ↔ 0 ≤ idxI P (ownB (x : Int) o) := by
  obtain ⟨H, h1, _, h3⟩ := h.hd x hx
  constructor
  · rintro (hm | hm)
    · rw [← h3] at hm
      obtain ⟨q, hq, e⟩ := List.mem_map.1 hm
      obtain ⟨p, hp, e2⟩ := List.mem_map.1 hq
      have hp2 := List.mem_filter.1 (h1.subset hp)
      refine idxI_pos hp2.1 ?_
      have h4 := hp2.2
      unfold heldB at h4
      rw [Bool.and_eq_true] at h4
      unfold ownB
      rw [Bool.and_eq_true]
      refine ⟨h4.1, ?_⟩
      rw [← e2] at e
      simpa [plR] using e
    · rw [← h.wt x hx] at hm
      obtain ⟨q, hq, e⟩ := List.mem_map.1 hm
      obtain ⟨p, hp, e2⟩ := List.mem_map.1 hq
      have hp2 := List.mem_filter.1 hp
      refine idxI_pos hp2.1 ?_
      have h4 := hp2.2
      unfold waitB at h4
      rw [Bool.and_eq_true] at h4
      unfold ownB
      rw [Bool.and_eq_true]
      refine ⟨h4.1, ?_⟩
      rw [← e2] at e
      simpa [plR] using e
  · intro hf
    obtain ⟨i, p, _, _, hp, hb⟩ := idxI_ge hf
    unfold ownB at hb
    rw [Bool.and_eq_true, beq_iff_eq, beq_iff_eq] at hb
    have hm : p ∈ P := List.mem_of_getElem? hp
    cases hh : p.2.2.2.1 with
    | true =>
      left
      rw [← h3, List.map_map]
      refine List.mem_map.2 ⟨p, h1.symm.subset (List.mem_filter.2 ⟨hm, ?_⟩), hb.2⟩
      unfold heldB
      rw [hb.1, hh]
      simp
    | false =>
      right
      rw [← h.wt x hx, List.map_map]
      refine List.mem_map.2 ⟨p, List.mem_filter.2 ⟨hm, ?_⟩, hb.2⟩
      unfold waitB
      rw [hb.1, hh]
      simp
/-- the first that waits -/
theorem idx_filter : ∀ {l : List RP} {f : RP → Bool} {i : Nat}, l.findIdx? f = some i → ∃ p q, l[i]? = some p ∧ l.filter f = p :: q
  | [], f, i, h => by simp at h
  | a :: l, f, i, h => by
    rw [List.findIdx?_cons] at h
    cases ha : f a with
    | true =>
      rw [ha, if_pos rfl] at h
      cases h
      exact ⟨a, l.filter f, rfl, by rw [List.filter_cons, if_pos ha]⟩
    | false =>
      rw [ha, if_neg (by decide)] at h
      obtain ⟨j, hj, rfl⟩ := Option.map_eq_some_iff.1 h
      obtain ⟨p, q, h1, h2⟩ := idx_filter hj
      exact ⟨p, q, by simpa using h1, by rw [List.filter_cons, if_neg (by rw [ha]; decide), h2]⟩
theorem filter_nil_idx {l : List RP} {f : RP → Bool} (h : l.filter f = []) : idxI l f = -1 := by
  apply Classical.byContradiction
  intro hn
  have h0 : 0 ≤ idxI l f := Classical.byContradiction fun h1 => hn (idxI_neg h1).1
  obtain ⟨i, p, _, hi, _, _⟩ := idxI_ge h0
  obtain ⟨p, q, _, h2⟩ := idx_filter hi
  rw [h] at h2
  cases h2
theorem Sim.first_none (h : Sim n L P turns) {x : Nat} (hx : x < n) (hr : L (x * 2 + 1) = []) : idxI P (waitB (x : Int)) = -1 := by
  refine filter_nil_idx ?_
  have := h.wt x hx
  rw [hr, List.map_eq_nil_iff] at this
  exact this
theorem Sim.first_some (h : Sim n L P turns) {x : Nat} (hx : x < n) {a : Pl} {r : List Pl} (hr : L (x * 2 + 1) = a :: r) : ∃ (i : Nat) (p : RP) (q : List RP), idxI P (waitB (x : Int)) = (i : Int) ∧ P.findIdx? (waitB (x : Int)) = some i ∧ P[i]? = some p ∧ P.filter (waitB (x : Int)) = p :: q ∧ plR p = a ∧ q.map plR = r := by
  have hw := h.wt x hx
  rw [hr] at hw
  have h0 : 0 ≤ idxI P (waitB (x : Int)) := by
    apply Classical.byContradiction
    intro hn
    have h2 := (idxI_neg hn).2
    have : P.filter (waitB (x : Int)) = [] := by
      rw [List.filter_eq_nil_iff]
      intro p hp
      rw [h2 p hp]
      decide
    rw [this] at hw
    cases hw
  obtain ⟨i, p, h1, h2, h3, _⟩ := idxI_ge h0
  obtain ⟨p', q, h5, h6⟩ := idx_filter h2
  rw [h3] at h5
  cases h5
  rw [h6, List.map_cons] at hw
  injection hw with e1 e2
  exact ⟨i, p, q, h1, h2, h3, h6, e1, e2⟩
/-- does a mode go with those who hold? -/
def goesR (P : List RP) (x mode : Int) : Bool := !(P.any fun p => p.1 == x && p.2.2.2.1 && (p.2.1 == 2 || mode == 2))
theorem Sim.goes2 (h : Sim n L P turns) {x : Nat} (hx : x < n) (hmd : ∀ p ∈ L (x * 2), p.2 = 1 ∨ p.2 = 2) (hsh : (∀ p ∈ L (x * 2), p.2 = 1) ∨ ∃ p, L (x * 2) = [p] ∧ p.2 = 2) {mode : Int} (hm : mode = 1 ∨ mode = 2) : goesR P (x : Int) mode = goesL (L (x * 2)) mode := by
  obtain ⟨H, h1, _, h3⟩ := h.hd x hx
  have key : (P.any fun p => p.1 == (x : Int) && p.2.2.2.1 && (p.2.1 == 2 || mode == 2)) = (L (x * 2)).any fun q => q.2 == 2 || mode == 2 := by
    rw [Bool.eq_iff_iff, List.any_eq_true, List.any_eq_true]
    constructor
    · rintro ⟨p, hp, hb⟩
      rw [Bool.and_eq_true, Bool.and_eq_true] at hb
      refine ⟨plR p, ?_, hb.2⟩
      rw [← h3]
      exact List.mem_map.2 ⟨p, h1.symm.subset (List.mem_filter.2 ⟨hp, by unfold heldB; rw [Bool.and_eq_true]; exact hb.1⟩), rfl⟩
    · rintro ⟨q, hq, hb⟩
      rw [← h3] at hq
      obtain ⟨p, hp, rfl⟩ := List.mem_map.1 hq
      have hp2 := List.mem_filter.1 (h1.subset hp)
      refine ⟨p, hp2.1, ?_⟩
      have h4 := hp2.2
      unfold heldB at h4
      rw [Bool.and_eq_true, Bool.and_eq_true]
      rw [Bool.and_eq_true] at h4
      exact ⟨h4, hb⟩
  unfold goesR
  rw [key]
  cases hh : L (x * 2) with
  | nil => rfl
  | cons a t =>
    rw [hh] at hmd hsh
    have ha := hmd a (by simp)
    show (!((a.2 == 2 || mode == 2) || t.any fun q => q.2 == 2 || mode == 2)) = (mode == 1 && a.2 == 1)
    rcases hsh with hs | ⟨p, hp, h2⟩
    · have ha1 := hs a (by simp)
      rw [ha1]
      rcases hm with rfl | rfl
      · have : (t.any fun q => q.2 == 2 || (1 : Int) == 2) = false := by
          rw [List.any_eq_false]
          intro q hq
          rw [hs q (by simp [hq])]
          decide
        rw [this]
        rfl
      · simp
    · injection hp with e1 e2
      subst e1
      subst e2
      rw [h2]
      simp
theorem Sim.goes (h : Sim n L P turns) (hg : Good n L) {x : Nat} (hx : x < n) {mode : Int} (hm : mode = 1 ∨ mode = 2) : goesR P (x : Int) mode = goesL (L (x * 2)) mode :=
  h.goes2 hx (fun p hp => (hg x hx).mods p (List.mem_append_left _ hp)) (hg x hx).sh hm
end
theorem filter_app_ne {x y : Int} {p : RP} (h : p.1 = x) (hne : x ≠ y) : waitB y p = false ∧ heldB y p = false := by
  unfold waitB heldB
  have : (p.1 == y) = false := by rw [beq_eq_false_iff_ne, h]; exact hne
  rw [this]
  exact ⟨rfl, rfl⟩
section
variable {n : Nat} {L : Nat → List Pl} {P : List RP} {turns : Int}
theorem filter_app {l : List RP} {f : RP → Bool} {p : RP} (h : f p = false) : (l ++ [p]).filter f = l.filter f := by
  rw [List.filter_append, List.filter_cons, if_neg (by rw [h]; decide)]
  simp
theorem filter_app2 {l : List RP} {f : RP → Bool} {p : RP} (h : f p = true) : (l ++ [p]).filter f = l.filter f ++ [p] := by
  rw [List.filter_append, List.filter_cons, if_pos h]
  rfl
/-- granted at once -/
theorem Sim.grant (h : Sim n L P turns) {x : Nat} (hx : x < n) (m o : Int) : Sim n (upd (upd L (x * 2) (L (x * 2) ++ [(o, m)])) (x * 2 + 1) (L (x * 2 + 1))) (P ++ [((x : Int), m, o, true, turns + 1)]) (turns + 1) := by
  refine ⟨fun p hp => ?_, fun y hy => ?_, fun y hy => ?_, fun p hp ht => ?_, by have := h.t0; omega⟩
  · rcases List.mem_append.1 hp with hp | hp
    · exact h.ext p hp
    · rw [List.mem_singleton] at hp; subst hp; exact ⟨x, hx, rfl⟩
  · by_cases e : y = x
    · subst e
      rw [filter_app (by unfold waitB; simp), h.wt y hy, upd2_r]
    · rw [filter_app (filter_app_ne rfl (by omega)).1, h.wt y hy, upd2_other L x _ _ (by omega) (by omega)]
  · obtain ⟨H, h1, h2, h3⟩ := h.hd y hy
    by_cases e : y = x
    · subst e
      refine ⟨H ++ [((y : Int), m, o, true, turns + 1)], ?_, ?_, ?_⟩
      · rw [filter_app2 (by unfold heldB; simp)]
        exact h1.append_right _
      · rw [List.pairwise_append]
        refine ⟨h2, List.pairwise_singleton _ _, fun a ha b hb => ?_⟩
        rw [List.mem_singleton] at hb
        subst hb
        have ha2 := List.mem_filter.1 (h1.subset ha)
        have hh := ha2.2
        unfold heldB at hh
        rw [Bool.and_eq_true] at hh
        have := (h.tn a ha2.1 hh.2).2
        show a.2.2.2.2 < turns + 1
        omega
      · rw [List.map_append, h3, upd2_h]
        rfl
    · refine ⟨H, ?_, h2, ?_⟩
      · rw [filter_app (filter_app_ne rfl (by omega)).2]; exact h1
      · rw [h3, upd2_other L x _ _ (by omega) (by omega)]
  · rcases List.mem_append.1 hp with hp | hp
    · have := h.tn p hp ht; omega
    · rw [List.mem_singleton] at hp
      subst hp
      have := h.t0
      exact ⟨by show (1 : Int) ≤ turns + 1; omega, Int.le_refl _⟩
/-- set in the row -/
theorem Sim.queue (h : Sim n L P turns) {x : Nat} (hx : x < n) (m o : Int) : Sim n (upd (upd L (x * 2) (L (x * 2))) (x * 2 + 1) (L (x * 2 + 1) ++ [(o, m)])) (P ++ [((x : Int), m, o, false, 0)]) turns := by
  refine ⟨fun p hp => ?_, fun y hy => ?_, fun y hy => ?_, fun p hp ht => ?_, h.t0⟩
  · rcases List.mem_append.1 hp with hp | hp
    · exact h.ext p hp
    · rw [List.mem_singleton] at hp; subst hp; exact ⟨x, hx, rfl⟩
  · by_cases e : y = x
    · subst e
      rw [filter_app2 (by unfold waitB; simp), List.map_append, h.wt y hy, upd2_r]
      rfl
    · rw [filter_app (filter_app_ne rfl (by omega)).1, h.wt y hy, upd2_other L x _ _ (by omega) (by omega)]
  · obtain ⟨H, h1, h2, h3⟩ := h.hd y hy
    refine ⟨H, ?_, h2, ?_⟩
    · by_cases e : y = x
      · subst e
        rw [filter_app (by unfold heldB; simp)]; exact h1
      · rw [filter_app (filter_app_ne rfl (by omega)).2]; exact h1
    · by_cases e : y = x
      · subst e; rw [h3, upd2_h]
      · rw [h3, upd2_other L x _ _ (by omega) (by omega)]
  · rcases List.mem_append.1 hp with hp | hp
    · exact h.tn p hp ht
    · rw [List.mem_singleton] at hp
      subst hp
      cases ht
/-- the same lists -/
theorem Sim.congr {L' : Nat → List Pl} (h : Sim n L P turns) (e : ∀ j, j < 2 * n → L j = L' j) : Sim n L' P turns :=
  ⟨h.ext, fun x hx => by rw [h.wt x hx, e _ (by omega)], fun x hx => by
    obtain ⟨H, h1, h2, h3⟩ := h.hd x hx
    exact ⟨H, h1, h2, by rw [h3, e _ (by omega)]⟩, h.tn, h.t0⟩
/-- only one place of an owner at an extent -/
theorem erase_uniq : ∀ {l : List RP} {f : RP → Bool} {k : Nat}, (l.filter f).length ≤ 1 → l.findIdx? f = some k → l.eraseIdx k = l.filter fun p => !f p
  | [], f, k, _, h => by simp at h
  | a :: l, f, k, hl, h => by
    rw [List.findIdx?_cons] at h
    cases ha : f a with
    | true =>
      rw [ha, if_pos rfl] at h
      cases h
      rw [List.filter_cons, if_pos ha] at hl
      have h0 : l.filter f = [] := List.eq_nil_of_length_eq_zero (by simp at hl; exact by simpa using hl)
      rw [List.filter_eq_nil_iff] at h0
      show l = _
      rw [List.filter_cons, if_neg (by rw [ha]; decide)]
      refine (List.filter_eq_self.2 fun p hp => ?_).symm
      have := h0 p hp
      simp at this
      rw [this]
      rfl
    | false =>
      rw [ha, if_neg (by decide)] at h
      obtain ⟨j, hj, rfl⟩ := Option.map_eq_some_iff.1 h
      rw [List.filter_cons, if_neg (by rw [ha]; decide)] at hl
      rw [List.eraseIdx_cons_succ, List.filter_cons, if_pos (by rw [ha]; rfl), erase_uniq hl hj]
theorem nodup_one {l : List Pl} {o : Int} (h : (l.map (·.1)).Nodup) : (l.filter fun p => p.1 == o).length ≤ 1 := by
  induction l with
  | nil => simp
  | cons a t ih =>
    rw [List.map_cons, List.nodup_cons] at h
    rw [List.filter_cons]
    split
    · next ha =>
      have e : a.1 = o := by simpa using ha
      have : t.filter (fun p => p.1 == o) = [] := by
        rw [List.filter_eq_nil_iff]
        intro p hp hb
        have e2 : p.1 = o := by simpa using hb
        exact h.1 (by rw [e, ← e2]; exact List.mem_map.2 ⟨p, hp, rfl⟩)
      rw [this]
      simp
    · exact ih h.2
theorem split_len (l : List RP) (x o : Int) : (l.filter (ownB x o)).length = (((l.filter (heldB x)).map plR).filter fun p => p.1 == o).length + (((l.filter (waitB x)).map plR).filter fun p => p.1 == o).length := by
  induction l with
  | nil => rfl
  | cons a t ih =>
    obtain ⟨e, m, ow, hd, tu⟩ := a
    cases he : (e == x) with
    | false =>
      have h1 : ownB x o (e, m, ow, hd, tu) = false := by unfold ownB; rw [he]; rfl
      have h2 : heldB x (e, m, ow, hd, tu) = false := by unfold heldB; rw [he]; rfl
      have h3 : waitB x (e, m, ow, hd, tu) = false := by unfold waitB; rw [he]; rfl
      simp only [List.filter_cons, h1, h2, h3]
      simpa using ih
    | true =>
      have h1 : ownB x o (e, m, ow, hd, tu) = (ow == o) := by unfold ownB; rw [he]; rfl
      have h2 : heldB x (e, m, ow, hd, tu) = hd := by unfold heldB; rw [he]; rfl
      have h3 : waitB x (e, m, ow, hd, tu) = !hd := by unfold waitB; rw [he]; rfl
      cases hd with
      | true =>
        simp only [List.filter_cons, h1, h2, h3]
        cases ho : (ow == o)
        · simpa [plR, ho, List.filter_cons] using ih
        · simp [plR, ho, List.filter_cons]
          try simp at ih
          omega
      | false =>
        simp only [List.filter_cons, h1, h2, h3]
        cases ho : (ow == o)
        · simpa [plR, ho, List.filter_cons] using ih
        · simp [plR, ho, List.filter_cons]
          try simp at ih
          omega
theorem Sim.uniq (h : Sim n L P turns) (hg : Good n L) {x : Nat} (hx : x < n) (o : Int) : (P.filter (ownB (x : Int) o)).length ≤ 1 := by
  obtain ⟨H, h1, _, h3⟩ := h.hd x hx
  rw [split_len, h.wt x hx]
  have e1 : (((P.filter (heldB (x : Int))).map plR).filter fun p => p.1 == o).length = ((L (x * 2)).filter fun p => p.1 == o).length := by
    rw [← h3]
    exact ((h1.symm.map plR).filter _).length_eq
  rw [e1]
  have h4 := nodup_one (o := o) (hg x hx).nod
  rw [List.filter_append, List.length_append] at h4
  exact h4
/-- an owner's place is taken away -/
theorem Sim.rm (h : Sim n L P turns) {x : Nat} (hx : x < n) (o : Int) : Sim n (upd (upd L (x * 2) (rmP (L (x * 2)) o)) (x * 2 + 1) (rmP (L (x * 2 + 1)) o)) (P.filter fun p => !ownB (x : Int) o p) turns := by
  have hsub : ∀ p, p ∈ (P.filter fun p => !ownB (x : Int) o p) → p ∈ P := fun p hp => (List.mem_filter.1 hp).1
  have key : ∀ (l : List RP), (∀ p ∈ l, p.1 = (x : Int)) → (l.filter fun p => !ownB (x : Int) o p).map plR = rmP (l.map plR) o := fun l => by
    induction l with
    | nil => intro _; rfl
    | cons a t ih =>
      intro ha
      have ih2 := ih fun p hp => ha p (by simp [hp])
      have e1 : ownB (x : Int) o a = (a.2.2.1 == o) := by unfold ownB; rw [ha a (by simp)]; simp
      unfold rmP at ih2 ⊢
      rw [List.filter_cons, List.map_cons, List.filter_cons, e1]
      cases ho : (a.2.2.1 == o)
      · rw [if_pos (by decide), if_pos (by simp [plR, bne, ho]), List.map_cons, ih2]
      · rw [if_neg (by decide), if_neg (by simp [plR, bne, ho]), ih2]
  have far : ∀ (l : List RP) (y : Nat), y ≠ x → (∀ p ∈ l, p.1 = (y : Int)) → (l.filter fun p => !ownB (x : Int) o p) = l := fun l y hy hl => by
    rw [List.filter_eq_self]
    intro p hp
    unfold ownB
    have : (p.1 == (x : Int)) = false := by rw [beq_eq_false_iff_ne, hl p hp]; omega
    rw [this]
    rfl
  have hext : ∀ (y : Int) (f : RP → Bool), (∀ p, f p = true → p.1 = y) → ∀ p ∈ P.filter f, p.1 = y := fun y f hf p hp => hf p (List.mem_filter.1 hp).2
  have hw1 : ∀ (y : Int) (p : RP), waitB y p = true → p.1 = y := fun y p hp => by unfold waitB at hp; simp at hp; exact hp.1
  have hh1 : ∀ (y : Int) (p : RP), heldB y p = true → p.1 = y := fun y p hp => by unfold heldB at hp; simp at hp; exact hp.1
  have comm : ∀ (f g : RP → Bool) (l : List RP), (l.filter f).filter g = (l.filter g).filter f := fun f g l => by rw [List.filter_filter, List.filter_filter]; exact List.filter_congr fun a _ => Bool.and_comm ..
  refine ⟨fun p hp => h.ext p (hsub p hp), fun y hy => ?_, fun y hy => ?_, fun p hp ht => h.tn p (hsub p hp) ht, h.t0⟩
  · rw [comm]
    by_cases e : y = x
    · subst e
      rw [key _ (hext _ _ (hw1 _)), h.wt y hy, upd2_r]
    · rw [far _ y e (hext _ _ (hw1 _)), h.wt y hy, upd2_other L x _ _ (by omega) (by omega)]
  · obtain ⟨H, h1, h2, h3⟩ := h.hd y hy
    by_cases e : y = x
    · subst e
      refine ⟨H.filter fun p => !ownB (y : Int) o p, ?_, h2.sublist List.filter_sublist, ?_⟩
      · rw [comm]
        exact h1.filter _
      · rw [key _ (fun p hp => hext _ _ (hh1 _) p (h1.subset hp)), h3, upd2_h]
    · refine ⟨H, ?_, h2, ?_⟩
      · rw [comm, far _ y e (hext _ _ (hh1 _))]; exact h1
      · rw [h3, upd2_other L x _ _ (by omega) (by omega)]
end
theorem set_tail : ∀ {l : List RP} {f : RP → Bool} {i : Nat} {y : RP}, l.findIdx? f = some i → f y = false → (l.set i y).filter f = (l.filter f).tail
  | [], f, i, y, h, _ => by simp at h
  | a :: l, f, i, y, h, hy => by
    rw [List.findIdx?_cons] at h
    cases ha : f a with
    | true =>
      rw [ha, if_pos rfl] at h
      cases h
      rw [List.set_cons_zero, List.filter_cons, if_neg (by rw [hy]; decide), List.filter_cons, if_pos ha]
      rfl
    | false =>
      rw [ha, if_neg (by decide)] at h
      obtain ⟨j, hj, rfl⟩ := Option.map_eq_some_iff.1 h
      rw [List.set_cons_succ, List.filter_cons, if_neg (by rw [ha]; decide), List.filter_cons, if_neg (by rw [ha]; decide)]
      exact set_tail hj hy
theorem set_same : ∀ {l : List RP} {f : RP → Bool} {i : Nat} {x y : RP}, l[i]? = some x → f x = false → f y = false → (l.set i y).filter f = l.filter f
  | [], f, i, x, y, h, _, _ => by simp at h
  | a :: l, f, 0, x, y, h, hx, hy => by
    cases h
    rw [List.set_cons_zero, List.filter_cons, if_neg (by rw [hy]; decide), List.filter_cons, if_neg (by rw [hx]; decide)]
  | a :: l, f, i + 1, x, y, h, hx, hy => by
    rw [List.set_cons_succ, List.filter_cons, List.filter_cons, set_same (by simpa using h) hx hy]
theorem set_perm : ∀ {l : List RP} {f : RP → Bool} {i : Nat} {x y : RP}, l[i]? = some x → f x = false → f y = true → List.Perm ((l.set i y).filter f) (l.filter f ++ [y])
  | [], f, i, x, y, h, _, _ => by simp at h
  | a :: l, f, 0, x, y, h, hx, hy => by
    cases h
    rw [List.set_cons_zero, List.filter_cons, if_pos hy, List.filter_cons, if_neg (by rw [hx]; decide)]
    exact (List.perm_append_comm (l₁ := [y]))
  | a :: l, f, i + 1, x, y, h, hx, hy => by
    rw [List.set_cons_succ, List.filter_cons, List.filter_cons]
    have ih := set_perm (f := f) (show l[i]? = some x by simpa using h) hx hy
    split
    · exact ih.cons a
    · exact ih
section
variable {n : Nat} {L : Nat → List Pl} {P : List RP} {turns : Int}
/-- the first of the row comes in -/
theorem Sim.come (h : Sim n L P turns) {x : Nat} (hx : x < n) {i : Nat} {p : RP} {q : List RP} (hi : P.findIdx? (waitB (x : Int)) = some i) (hp : P[i]? = some p) (hq : P.filter (waitB (x : Int)) = p :: q) :
    Sim n (upd (upd L (x * 2) (L (x * 2) ++ [plR p])) (x * 2 + 1) (q.map plR)) (P.set i (p.1, p.2.1, p.2.2.1, true, turns + 1)) (turns + 1) := by
  have hm : p ∈ P.filter (waitB (x : Int)) := by rw [hq]; simp
  have hb := (List.mem_filter.1 hm).2
  unfold waitB at hb
  rw [Bool.and_eq_true, beq_iff_eq, Bool.not_eq_true'] at hb
  obtain ⟨hb1, hb2⟩ := hb
  have hil : i < P.length := (List.getElem?_eq_some_iff.1 hp).1
  have hmem : ∀ r, r ∈ P.set i (p.1, p.2.1, p.2.2.1, true, turns + 1) → r ∈ P ∨ r = (p.1, p.2.1, p.2.2.1, true, turns + 1) := fun r hr => List.mem_or_eq_of_mem_set hr
  refine ⟨fun r hr => ?_, fun y hy => ?_, fun y hy => ?_, fun r hr ht => ?_, by have := h.t0; omega⟩
  · rcases hmem r hr with h1 | h1
    · exact h.ext r h1
    · subst h1; exact ⟨x, hx, hb1⟩
  · by_cases e : y = x
    · subst e
      rw [set_tail hi (by unfold waitB; simp), hq, upd2_r]
      rfl
    · rw [set_same hp (filter_app_ne hb1 (by omega)).1 (filter_app_ne (p := (p.1, p.2.1, p.2.2.1, true, turns + 1)) hb1 (by omega)).1, h.wt y hy, upd2_other L x _ _ (by omega) (by omega)]
  · obtain ⟨H, h1, h2, h3⟩ := h.hd y hy
    by_cases e : y = x
    · subst e
      refine ⟨H ++ [(p.1, p.2.1, p.2.2.1, true, turns + 1)], ?_, ?_, ?_⟩
      · refine List.Perm.trans (h1.append_right _) (set_perm hp ?_ ?_).symm
        · unfold heldB; rw [hb2]; simp
        · unfold heldB; simp [hb1]
      · rw [List.pairwise_append]
        refine ⟨h2, List.pairwise_singleton _ _, fun a ha b hb => ?_⟩
        rw [List.mem_singleton] at hb
        subst hb
        have ha2 := List.mem_filter.1 (h1.subset ha)
        have hh := ha2.2
        unfold heldB at hh
        rw [Bool.and_eq_true] at hh
        have := (h.tn a ha2.1 hh.2).2
        show a.2.2.2.2 < turns + 1
        omega
      · rw [List.map_append, h3, upd2_h]
        rfl
    · refine ⟨H, ?_, h2, ?_⟩
      · rw [set_same hp (filter_app_ne hb1 (by omega)).2 (filter_app_ne (p := (p.1, p.2.1, p.2.2.1, true, turns + 1)) hb1 (by omega)).2]; exact h1
      · rw [h3, upd2_other L x _ _ (by omega) (by omega)]
  · rcases hmem r hr with h1 | h1
    · have := h.tn r h1 ht; omega
    · subst h1
      have := h.t0
      exact ⟨by show (1 : Int) ≤ turns + 1; omega, Int.le_refl _⟩
/-- how many wait -/
theorem Sim.waits (h : Sim n L P turns) : (P.filter fun p => !p.2.2.2.1).length = rowSum n L := by
  have key : ∀ (l : List RP) (m : Nat), (l.filter fun p => !p.2.2.2.1 && decide (p.1 < (m : Int)) && decide (0 ≤ p.1)).length = rowSum m (fun j => ((l.filter (waitB ((j / 2 : Nat) : Int))).map plR)) := fun l m => by
    induction m with
    | zero =>
      rw [rowSum]
      have : (l.filter fun p => !p.2.2.2.1 && decide (p.1 < ((0 : Nat) : Int)) && decide (0 ≤ p.1)) = [] := by
        rw [List.filter_eq_nil_iff]
        intro p _ hb
        simp at hb
        omega
      rw [this]
      rfl
    | succ m ih =>
      rw [rowSum, ← ih]
      try dsimp only
      rw [show (m * 2 + 1) / 2 = m by omega, List.length_map]
      clear ih
      induction l with
      | nil => rfl
      | cons a t ih =>
        obtain ⟨e, mo, ow, hd, tu⟩ := a
        cases hd with
        | true => simpa [List.filter_cons, waitB] using ih
        | false =>
          rcases Int.lt_trichotomy e (m : Int) with h1 | h1 | h1
          · by_cases h0 : 0 ≤ e
            · have a1 : e < ((m + 1 : Nat) : Int) := by omega
              have a2 : e ≠ (m : Int) := by omega
              simp only [List.filter_cons, waitB, h0, h1, a1, a2, decide_true, Bool.and_true, Bool.not_false, beq_iff_eq, if_true, if_false, List.length_cons, Bool.and_self, Bool.true_and] at ih ⊢
              simp [a2]
              simp at ih
              omega
            · simp [List.filter_cons, waitB, h0, show e ≠ (m : Int) by omega]
              simp [waitB] at ih
              omega
          · subst h1
            have a1 : (m : Int) < (m : Int) + 1 := by omega
            simp [List.filter_cons, waitB, a1]
            simp [waitB] at ih
            omega
          · have a1 : ¬ e < (m : Int) := by omega
            have a2 : ¬ e < (m : Int) + 1 := by omega
            have a3 : e ≠ (m : Int) := by omega
            simp [List.filter_cons, waitB, a1, a2, a3]
            simp [waitB] at ih
            omega
  have e1 : (P.filter fun p => !p.2.2.2.1) = (P.filter fun p => !p.2.2.2.1 && decide (p.1 < (n : Int)) && decide (0 ≤ p.1)) := by
    refine List.filter_congr fun p hp => ?_
    obtain ⟨x, hx, e⟩ := h.ext p hp
    rw [e, decide_eq_true (show (x : Int) < (n : Int) by omega), decide_eq_true (show (0 : Int) ≤ (x : Int) by omega)]
    simp
  rw [e1, key]
  have key2 : ∀ (m : Nat) (M M' : Nat → List Pl), (∀ y, y < m → M (y * 2 + 1) = M' (y * 2 + 1)) → rowSum m M = rowSum m M' := fun m M M' hM => by
    induction m with
    | zero => rfl
    | succ m ih => rw [rowSum, rowSum, ih fun y hy => hM y (by omega), hM m (by omega)]
  refine key2 n _ _ fun y hy => ?_
  show (P.filter (waitB (((y * 2 + 1) / 2 : Nat) : Int))).map plR = _
  rw [show (y * 2 + 1) / 2 = y by omega]
  exact h.wt y hy
end
end Go.Proofs.Ytkjbjfjgnponfaa
