/- ActlogOldest: the statement's book beside the Lru, plain. -/
import Derived.Test.YtiidheknlacioaaLruP
namespace Go.Proofs.Ytiidheknlacioaa
set_option linter.unusedVariables false
set_option linter.unusedSimpArgs false
/-- a line of the book: key, given, given back, when -/
abbrev U4 := Int × Int × Int × Int
def findU (l : List U4) (key : Int) : Option Nat := l.findIdx? fun u => u.1 == key
def findI (l : List U4) (key : Int) : Int := match findU l key with | some i => i | none => -1
def idleU (u : U4) : Prop := u.2.1 = u.2.2.1
instance (u : U4) : Decidable (idleU u) := by unfold idleU; infer_instance
def atU (l : List U4) (j : Nat) : Int := (l[j]?.getD (0, 0, 0, 0)).2.2.2
def lessB (l : List U4) (b : Option Nat) (a : Int) : Bool := match b with | none => true | some j => decide (a < atU l j)
/-- the best of the first k lines -/
def bestU (l : List U4) : Nat → Option Nat
  | 0 => none
  | k + 1 => match l[k]? with
    | none => bestU l k
    | some u => if idleU u ∧ lessB l (bestU l k) u.2.2.2 = true then some k else bestU l k
def bestI (l : List U4) (k : Nat) : Int := match bestU l k with | some i => i | none => -1
def withoutU (l : List U4) (key : Int) : List U4 := l.filter fun u => !(u.1 == key)
section
variable {l : List U4} {key : Int}
theorem findU_some {i : Nat} (h : findU l key = some i) : ∃ u, l[i]? = some u ∧ u.1 = key ∧ i < l.length := by
  unfold findU at h
  rw [List.findIdx?_eq_some_iff_getElem] at h
  obtain ⟨hi, h1, _⟩ := h
  exact ⟨l[i], List.getElem?_eq_getElem hi, by simpa using h1, hi⟩
theorem findU_none (h : findU l key = none) : ∀ u ∈ l, u.1 ≠ key := fun u hu e => by
  unfold findU at h
  rw [List.findIdx?_eq_none_iff] at h
  have := h u hu
  simp [e] at this
theorem bestU_lt {k j : Nat} (h : bestU l k = some j) : j < k := by
  induction k with
  | zero => cases h
  | succ k ih =>
    unfold bestU at h
    split at h
    · have := ih h; omega
    · split at h
      · cases h; omega
      · have := ih h; omega
theorem bestU_some {k j : Nat} (h : bestU l k = some j) : ∃ u, l[j]? = some u ∧ idleU u ∧ ∀ i v, i < k → l[i]? = some v → idleU v → u.2.2.2 ≤ v.2.2.2 := by
  induction k generalizing j with
  | zero => cases h
  | succ k ih =>
    unfold bestU at h
    cases hk : l[k]? with
    | none =>
      rw [hk] at h
      dsimp only at h
      obtain ⟨u, h1, h2, h3⟩ := ih h
      refine ⟨u, h1, h2, fun i v hi hv hw => ?_⟩
      by_cases e : i = k
      · subst e; rw [hk] at hv; cases hv
      · exact h3 i v (by omega) hv hw
    | some u =>
      rw [hk] at h
      dsimp only at h
      split at h
      · rename_i hc
        cases h
        refine ⟨u, hk, hc.1, fun i v hi hv hw => ?_⟩
        by_cases e : i = k
        · subst e; rw [hk] at hv; cases hv; exact Int.le_refl _
        · cases hb : bestU l k with
          | none =>
            exfalso
            have : ∀ q, q ≤ k → bestU l q = none → ∀ i v, i < q → l[i]? = some v → ¬ idleU v := by
              intro q
              induction q with
              | zero => intro _ _ i v hi; omega
              | succ q iq =>
                intro hq hb i v hi hv hw
                unfold bestU at hb
                cases hlq : l[q]? with
                | none =>
                  rw [hlq] at hb
                  by_cases e : i = q
                  · subst e; rw [hlq] at hv; cases hv
                  · exact iq (by omega) hb i v (by omega) hv hw
                | some u2 =>
                  rw [hlq] at hb
                  dsimp only at hb
                  split at hb
                  · cases hb
                  · rename_i hn
                    by_cases e : i = q
                    · subst e
                      rw [hlq] at hv
                      cases hv
                      exact hn ⟨hw, by rw [hb]; rfl⟩
                    · exact iq (by omega) hb i v (by omega) hv hw
            exact this k (Nat.le_refl _) hb i v (by omega) hv hw
          | some j =>
            rw [hb] at hc
            obtain ⟨u2, g1, g2, g3⟩ := ih hb
            have := g3 i v (by omega) hv hw
            have h4 : u.2.2.2 < atU l j := by simpa [lessB] using hc.2
            unfold atU at h4
            rw [g1] at h4
            have h4 : u.2.2.2 < u2.2.2.2 := h4
            omega
      · rename_i hc
        obtain ⟨u2, g1, g2, g3⟩ := ih h
        refine ⟨u2, g1, g2, fun i v hi hv hw => ?_⟩
        by_cases e : i = k
        · subst e
          rw [hk] at hv
          cases hv
          rw [h] at hc
          have h5 : ¬ (u.2.2.2 < atU l j) := fun h6 => hc ⟨hw, by simpa [lessB] using h6⟩
          unfold atU at h5
          rw [g1] at h5
          have h5 : ¬ (u.2.2.2 < u2.2.2.2) := h5
          omega
        · exact g3 i v (by omega) hv hw
theorem bestU_none {k : Nat} (h : bestU l k = none) : ∀ i v, i < k → l[i]? = some v → ¬ idleU v := by
  induction k with
  | zero => intro i v hi; omega
  | succ q iq =>
    intro i v hi hv hw
    unfold bestU at h
    cases hlq : l[q]? with
    | none =>
      rw [hlq] at h
      by_cases e : i = q
      · subst e; rw [hlq] at hv; cases hv
      · exact iq h i v (by omega) hv hw
    | some u2 =>
      rw [hlq] at h
      dsimp only at h
      split at h
      · cases h
      · rename_i hn
        by_cases e : i = q
        · subst e
          rw [hlq] at hv
          cases hv
          exact hn ⟨hw, by rw [h]; rfl⟩
        · exact iq h i v (by omega) hv hw
end

/-! ### lists of places -/
theorem len_set {α β : Type} {f : α → Option β} {l : List α} {i : Nat} {x y : α} (h : l[i]? = some x) : ((l.set i y).filterMap f).length + (if (f x).isSome then 1 else 0) = (l.filterMap f).length + (if (f y).isSome then 1 else 0) := by
  induction l generalizing i with
  | nil => simp at h
  | cons z l ih =>
    cases i with
    | zero =>
      obtain rfl : z = x := by simpa using h
      rw [List.set_cons_zero, List.filterMap_cons, List.filterMap_cons]
      cases f y <;> cases f z <;> simp
    | succ i =>
      have := ih (i := i) (by simpa using h)
      rw [List.set_cons_succ, List.filterMap_cons, List.filterMap_cons]
      cases f z
      · exact this
      · simp only [List.length_cons]; omega
theorem perm_set {l : List Plc} {i : Nat} {x y : Int × Int} (h : l[i]? = some (some x)) : ∃ R, ((l.set i (some y)).filterMap id).Perm (y :: R) ∧ (l.filterMap id).Perm (x :: R) := by
  induction l generalizing i with
  | nil => simp at h
  | cons z l ih =>
    cases i with
    | zero =>
      cases h
      exact ⟨l.filterMap id, by rw [List.set_cons_zero, List.filterMap_cons]; exact List.Perm.refl _, by rw [List.filterMap_cons]; exact List.Perm.refl _⟩
    | succ i =>
      obtain ⟨R, h1, h2⟩ := ih (i := i) (by simpa using h)
      rw [List.set_cons_succ]
      cases z with
      | none => exact ⟨R, by rw [List.filterMap_cons]; exact h1, by rw [List.filterMap_cons]; exact h2⟩
      | some z => exact ⟨z :: R, by rw [List.filterMap_cons]; exact (h1.cons z).trans (List.Perm.swap ..), by rw [List.filterMap_cons]; exact (h2.cons z).trans (List.Perm.swap ..)⟩
theorem perm_fresh {l : List Plc} {i : Nat} {y : Int × Int} (h : l[i]? = some none) : ((l.set i (some y)).filterMap id).Perm (y :: l.filterMap id) := by
  induction l generalizing i with
  | nil => simp at h
  | cons z l ih =>
    cases i with
    | zero => cases h; rw [List.set_cons_zero, List.filterMap_cons, List.filterMap_cons]; exact List.Perm.refl _
    | succ i =>
      have h1 := ih (i := i) (by simpa using h)
      rw [List.set_cons_succ, List.filterMap_cons, List.filterMap_cons]
      cases z with
      | none => exact h1
      | some z => exact (h1.cons z).trans (List.Perm.swap ..)
theorem perm_setU {β : Type} {f : U4 → β} {l : List U4} {i : Nat} {x y : U4} (h : l[i]? = some x) : ∃ R, ((l.set i y).map f).Perm (f y :: R) ∧ (l.map f).Perm (f x :: R) := by
  induction l generalizing i with
  | nil => simp at h
  | cons z l ih =>
    cases i with
    | zero => cases h; exact ⟨l.map f, List.Perm.refl _, List.Perm.refl _⟩
    | succ i =>
      obtain ⟨R, h1, h2⟩ := ih (i := i) (by simpa using h)
      exact ⟨f z :: R, (h1.cons (f z)).trans (List.Perm.swap ..), (h2.cons (f z)).trans (List.Perm.swap ..)⟩
theorem mem_places {s : LruS} {x : Int × Int} : x ∈ s.ps.filterMap id ↔ ∃ i : Nat, s.ps[i]? = some (some x) := by
  rw [List.mem_filterMap]
  constructor
  · rintro ⟨p, hp, e⟩
    obtain ⟨i, hi, rfl⟩ := List.getElem_of_mem hp
    exact ⟨i, by rw [List.getElem?_eq_getElem hi]; exact congrArg some e⟩
  · rintro ⟨i, hi⟩
    exact ⟨some x, List.mem_of_getElem? hi, rfl⟩
theorem full_len {l : List Plc} (h : ∀ i : Nat, l[i]? ≠ some none) : (l.filterMap id).length = l.length := by
  induction l with
  | nil => rfl
  | cons z l ih =>
    have h0 := h 0
    cases z with
    | none => exact absurd rfl h0
    | some z => rw [List.filterMap_cons]; simp only [id, List.length_cons]; rw [ih fun i => by have := h (i + 1); simpa using this]
theorem free_len {l : List Plc} {i : Nat} (h : l[i]? = some none) : (l.filterMap id).length < l.length := by
  induction l generalizing i with
  | nil => simp at h
  | cons z l ih =>
    have hle := List.length_filterMap_le id l
    cases i with
    | zero => cases h; rw [List.filterMap_cons]; simp only [id, List.length_cons]; omega
    | succ i =>
      have := ih (i := i) (by simpa using h)
      rw [List.filterMap_cons]
      cases z <;> simp only [id, List.length_cons] <;> omega

/-! ### the book beside the Lru -/
def lineU (u : U4) : Int × Int := (u.1, u.2.1 - u.2.2.1)
structure OSim (s : LruS) (bk : List U4) (i : Nat) : Prop where
  ok : LruOk s
  perm : (bk.map lineU).Perm (s.ps.filterMap id)
  keys : bk.Pairwise fun u v => u.1 ≠ v.1
  ord : s.idle.Pairwise fun a b => ∀ u ∈ bk, ∀ v ∈ bk, u.1 = (plcAt s a).1 → v.1 = (plcAt s b).1 → u.2.2.2 < v.2.2.2
  bnd : ∀ u ∈ bk, u.2.2.2 < i ∧ 0 ≤ u.2.2.1 ∧ u.2.2.1 ≤ u.2.1 ∧ u.2.1 ≤ i
  cnt : s.idle.length + (s.ps.filterMap busyK).length = bk.length
theorem key_eqU {bk : List U4} (hk : bk.Pairwise fun u v => u.1 ≠ v.1) {u v : U4} (hu : u ∈ bk) (hv : v ∈ bk) (e : u.1 = v.1) : u = v := by
  induction bk with
  | nil => cases hu
  | cons x l ih =>
    rw [List.pairwise_cons] at hk
    rcases List.mem_cons.1 hu with h1 | h1
    · rcases List.mem_cons.1 hv with h2 | h2
      · rw [h1, h2]
      · rw [h1] at e; exact absurd e (hk.1 v h2)
    · rcases List.mem_cons.1 hv with h2 | h2
      · rw [h2] at e; exact absurd e.symm (hk.1 u h1)
      · exact ih hk.2 h1 h2
section
variable {s : LruS} {bk : List U4} {i : Nat} {key : Int}
theorem OSim.place (h : OSim s bk i) {u : U4} (hu : u ∈ bk) : ∃ j : Nat, s.ps[j]? = some (some (lineU u)) := mem_places.1 (h.perm.mem_iff.1 (List.mem_map_of_mem hu))
theorem OSim.line (h : OSim s bk i) {j : Nat} {x : Int × Int} (hj : s.ps[j]? = some (some x)) : ∃ u ∈ bk, lineU u = x := by
  have := h.perm.mem_iff.2 (mem_places.2 ⟨j, hj⟩)
  exact List.mem_map.1 this
theorem OSim.len (h : OSim s bk i) : bk.length = (s.ps.filterMap id).length := by have := h.perm.length_eq; simpa using this
theorem OSim.find_slot (h : OSim s bk i) {a : Nat} {u : U4} (hf : findU bk key = some a) (hu : bk[a]? = some u) : ∃ j, slotS s key = some j ∧ s.ps[j]? = some (some (key, u.2.1 - u.2.2.1)) := by
  obtain ⟨v, h1, h2, _⟩ := findU_some hf
  rw [hu] at h1
  cases h1
  obtain ⟨j, hj⟩ := h.place (List.mem_of_getElem? hu)
  have hj' : s.ps[j]? = some (some (key, u.2.1 - u.2.2.1)) := by rw [hj, ← h2]; rfl
  exact ⟨j, slotS_at h.ok hj', hj'⟩
theorem OSim.find_none (h : OSim s bk i) (hf : findU bk key = none) : slotS s key = none := by
  cases hs : slotS s key with
  | none => rfl
  | some j =>
    obtain ⟨u, hu, e⟩ := h.line (slotS_some hs).1
    exact absurd (congrArg Prod.fst e) (findU_none hf u hu)
theorem OSim.keysLen (h : OSim s bk i) : (keysS s).length = bk.length := by
  unfold keysS
  rw [List.length_append, List.length_map]
  exact h.cnt
theorem OSim.new_ (n : Nat) : OSim (newL n) [] 0 := by
  have e : ∀ {β : Type} (f : Plc → Option β), f none = none → (List.replicate n (none : Plc)).filterMap f = [] := fun f hf => by
    rw [List.filterMap_replicate, hf]
  exact ⟨LruOk.new_ n, by show List.Perm [] ((List.replicate n none).filterMap id); rw [e id rfl], List.Pairwise.nil, List.Pairwise.nil, (fun u hu => by cases hu), by show 0 + ((List.replicate n none).filterMap busyK).length = 0; rw [e busyK rfl]; rfl⟩
theorem OSim.next (h : OSim s bk i) : OSim s bk (i + 1) := ⟨h.ok, h.perm, h.keys, h.ord, fun u hu => by have := h.bnd u hu; omega, h.cnt⟩
theorem keys_setU {bk : List U4} (hk : bk.Pairwise fun u v => u.1 ≠ v.1) {a : Nat} {u y : U4} (hu : bk[a]? = some u) (hy : y.1 = u.1) : (bk.set a y).Pairwise fun u v => u.1 ≠ v.1 := by
  have h1 : ((bk.set a y).map (·.1)) = bk.map (·.1) := by
    rw [List.map_set]
    apply List.ext_getElem?
    intro j
    rw [List.getElem?_set]
    split
    · rename_i e
      subst e
      have hl := (List.getElem?_eq_some_iff.1 hu).1
      rw [List.getElem?_map, hu, List.length_map, if_pos hl, hy]; rfl
    · rfl
  have h2 : (bk.map (·.1)).Pairwise (· ≠ ·) := List.pairwise_map.2 hk
  rw [← h1] at h2
  exact List.pairwise_map.1 h2
theorem mem_setU {bk : List U4} {a : Nat} {y v : U4} (h : v ∈ bk.set a y) : v = y ∨ v ∈ bk := by
  rcases List.mem_or_eq_of_mem_set h with h | h
  · exact .inr h
  · exact .inl h
/-- in a set line: the others are as they were -/
theorem old_setU {bk : List U4} (hk : bk.Pairwise fun u v => u.1 ≠ v.1) {a : Nat} {u y v : U4} (hu : bk[a]? = some u) (hy : y.1 = u.1) (hv : v ∈ bk.set a y) (hne : v.1 ≠ u.1) : v ∈ bk := by
  rcases mem_setU hv with rfl | h
  · exact absurd hy hne
  · exact h
/-- the last reference but one, or the last, comes back -/
theorem OSim.back (h : OSim s bk i) {a : Nat} {u : U4} (hf : findU bk key = some a) (hu : bk[a]? = some u) (hgt : u.2.2.1 < u.2.1) : OSim (putT s key) (bk.set a (u.1, u.2.1, u.2.2.1 + 1, (i : Int))) (i + 1) := by
  obtain ⟨j, hs, hj⟩ := h.find_slot hf hu
  obtain ⟨v, e1, e2, ha⟩ := findU_some hf
  rw [hu] at e1
  cases e1
  have hp : (plcAt s j).2 = u.2.1 - u.2.2.1 := by rw [plcAt_eq hj]
  have hT : putT s key = backT s key j := by unfold putT; rw [hs]; dsimp only; rw [if_neg (by rw [hp]; omega)]
  have hub := h.bnd u (List.mem_of_getElem? hu)
  have hlt := (List.getElem?_eq_some_iff.1 hj).1
  have hkp : ∀ q, q ≠ j → plcAt (backT s key j) q = plcAt s q := fun q hq => by unfold plcAt backT; dsimp only; rw [getElem?_set_ne _ hq]
  have hkj : plcAt (backT s key j) j = (key, u.2.1 - u.2.2.1 - 1) := plcAt_eq (by show (s.ps.set j _)[j]? = _; rw [getElem?_set_at _ hlt, hp])
  have hni : j ∉ s.idle := fun hm => by obtain ⟨k, hk⟩ := (h.ok.idle j).1 hm; rw [hj] at hk; injection hk with hk; injection hk with hk; injection hk with _ hk; omega
  have hidk : ∀ q ∈ s.idle, (plcAt s q).1 ≠ key := fun q hq e => by
    obtain ⟨k, hk⟩ := (h.ok.idle q).1 hq
    rw [plcAt_eq hk] at e
    dsimp only at e
    subst e
    have := h.ok.keys _ _ _ _ _ hk hj
    subst this
    exact hni hq
  refine ⟨h.ok.put key, ?_, keys_setU h.keys hu rfl, ?_, fun v hv => ?_, ?_⟩
  · rw [hT]
    obtain ⟨R, r1, r2⟩ := perm_setU (f := lineU) (y := (u.1, u.2.1, u.2.2.1 + 1, (i : Int))) hu
    obtain ⟨R', q1, q2⟩ := perm_set (y := (key, (plcAt s j).2 - 1)) hj
    have hx : lineU u = (key, u.2.1 - u.2.2.1) := by unfold lineU; rw [e2]
    rw [hx] at r2
    have hR : R.Perm R' := ((r2.symm.trans h.perm).trans q2).cons_inv
    refine r1.trans (List.Perm.trans ?_ q1.symm)
    have hy : lineU (u.1, u.2.1, u.2.2.1 + 1, (i : Int)) = (key, (plcAt s j).2 - 1) := by unfold lineU; rw [hp, ← e2]; show (u.1, u.2.1 - (u.2.2.1 + 1)) = _; congr 1; omega
    rw [hy]
    exact hR.cons _
  · rw [hT]
    have hold : s.idle.Pairwise fun x y => ∀ v ∈ bk.set a (u.1, u.2.1, u.2.2.1 + 1, (i : Int)), ∀ z ∈ bk.set a (u.1, u.2.1, u.2.2.1 + 1, (i : Int)), v.1 = (plcAt (backT s key j) x).1 → z.1 = (plcAt (backT s key j) y).1 → v.2.2.2 < z.2.2.2 := by
      refine h.ord.imp_of_mem fun {x y} hx hy hxy => ?_
      intro v hv z hz ev ez
      rw [hkp x (fun e => hni (e ▸ hx))] at ev
      rw [hkp y (fun e => hni (e ▸ hy))] at ez
      have n1 : v.1 ≠ u.1 := by rw [ev, e2]; exact hidk x hx
      have n2 : z.1 ≠ u.1 := by rw [ez, e2]; exact hidk y hy
      exact hxy v (old_setU h.keys hu (y := (u.1, u.2.1, u.2.2.1 + 1, (i : Int))) rfl hv n1) z (old_setU h.keys hu (y := (u.1, u.2.1, u.2.2.1 + 1, (i : Int))) rfl hz n2) ev ez
    show (if (plcAt s j).2 - 1 = 0 then s.idle ++ [j] else s.idle).Pairwise _
    split
    · refine List.pairwise_append.2 ⟨hold, List.pairwise_singleton .., fun x hx y hy v hv z hz ev ez => ?_⟩
      obtain rfl := List.mem_singleton.1 hy
      rw [hkp x (fun e => hni (e ▸ hx))] at ev
      rw [hkj] at ez
      have n1 : v.1 ≠ u.1 := by rw [ev, e2]; exact hidk x hx
      have hv' := h.bnd v (old_setU h.keys hu (y := (u.1, u.2.1, u.2.2.1 + 1, (i : Int))) rfl hv n1)
      have hz' : z.2.2.2 = (i : Int) := by
        rcases mem_setU hz with rfl | hz2
        · rfl
        · have hzz := key_eqU (keys_setU h.keys hu (y := (u.1, u.2.1, u.2.2.1 + 1, (i : Int))) rfl) hz (v := (u.1, u.2.1, u.2.2.1 + 1, (i : Int))) (List.mem_of_getElem? (by rw [List.getElem?_set, if_pos rfl, if_pos ha])) (by rw [ez, e2])
          rw [hzz]
      omega
    · exact hold
  · rcases mem_setU hv with rfl | hv
    · dsimp only; omega
    · have := h.bnd v hv; omega
  · rw [hT, List.length_set]
    have hc := h.cnt
    have hls := len_set (f := busyK) (y := some (key, (plcAt s j).2 - 1)) hj
    have b1 : (busyK (some (key, u.2.1 - u.2.2.1))).isSome = true := by unfold busyK; dsimp only; rw [if_pos (by omega)]; rfl
    rw [b1, if_pos rfl] at hls
    show (if (plcAt s j).2 - 1 = 0 then s.idle ++ [j] else s.idle).length + ((s.ps.set j (some (key, (plcAt s j).2 - 1))).filterMap busyK).length = _
    by_cases hz : (plcAt s j).2 - 1 = 0
    · have b2 : (busyK (some (key, (plcAt s j).2 - 1))).isSome = false := by unfold busyK; dsimp only; rw [if_neg (by omega)]; rfl
      rw [b2, if_neg (by simp)] at hls
      rw [if_pos hz, List.length_append, List.length_singleton]
      omega
    · have b2 : (busyK (some (key, (plcAt s j).2 - 1))).isSome = true := by unfold busyK; dsimp only; rw [if_pos (by omega)]; rfl
      rw [b2, if_pos rfl] at hls
      rw [if_neg hz]
      omega
theorem OSim.putR (h : OSim s bk i) : Go.Proofs.Ytiidheknlacioaa.putR s key = (match findU bk key with | none => 42 | some a => match bk[a]? with | none => 42 | some u => if u.2.2.1 < u.2.1 then 0 else 42) := by
  unfold Go.Proofs.Ytiidheknlacioaa.putR
  cases hf : findU bk key with
  | none => rw [h.find_none hf]
  | some a =>
    obtain ⟨u, hu, e2, ha⟩ := findU_some hf
    obtain ⟨j, hs, hj⟩ := h.find_slot hf hu
    dsimp only
    rw [hs, hu]
    dsimp only
    rw [plcAt_eq hj]
    have := h.bnd u (List.mem_of_getElem? hu)
    by_cases hg : u.2.2.1 < u.2.1
    · rw [if_pos hg, if_neg (by dsimp only; omega)]
    · rw [if_neg hg, if_pos (by dsimp only; omega)]
theorem filter_len {l : List Nat} {j : Nat} (hn : l.Nodup) (hm : j ∈ l) : (l.filter fun x => !decide (x = j)).length + 1 = l.length := by
  induction l with
  | nil => cases hm
  | cons x l ih =>
    rw [List.nodup_cons] at hn
    by_cases e : x = j
    · subst e
      rw [List.filter_cons_of_neg (by simp), List.filter_eq_self.2 fun y hy => by simp; rintro rfl; exact hn.1 hy]
      rfl
    · have hm' : j ∈ l := (List.mem_cons.1 hm).resolve_left (fun h => e h.symm)
      rw [List.filter_cons_of_pos (by simp [e]), List.length_cons, List.length_cons, ih hn.2 hm']
/-- a key that is there takes a reference -/
theorem OSim.hit (h : OSim s bk i) {a : Nat} {u : U4} (hf : findU bk key = some a) (hu : bk[a]? = some u) : (∃ j, getO s key = .hit j) ∧ OSim (getT s key) (bk.set a (u.1, u.2.1 + 1, u.2.2.1, u.2.2.2)) (i + 1) := by
  obtain ⟨j, hs, hj⟩ := h.find_slot hf hu
  obtain ⟨v, e1, e2, ha⟩ := findU_some hf
  rw [hu] at e1
  cases e1
  have hp : (plcAt s j).2 = u.2.1 - u.2.2.1 := by rw [plcAt_eq hj]
  have hO : getO s key = .hit j := by unfold getO; rw [hs]
  have hT : getT s key = hitT s key j := by unfold getT; rw [hO]
  have hub := h.bnd u (List.mem_of_getElem? hu)
  have hlt := (List.getElem?_eq_some_iff.1 hj).1
  have hkp : ∀ q, q ≠ j → plcAt (hitT s key j) q = plcAt s q := fun q hq => by unfold plcAt hitT; dsimp only; rw [getElem?_set_ne _ hq]
  have hidk : ∀ q ∈ s.idle, q ≠ j → (plcAt s q).1 ≠ key := fun q hq hne e => by
    obtain ⟨k, hk⟩ := (h.ok.idle q).1 hq
    rw [plcAt_eq hk] at e
    dsimp only at e
    subst e
    exact hne (h.ok.keys _ _ _ _ _ hk hj)
  have hni : (plcAt s j).2 ≠ 0 → j ∉ s.idle := fun h0 hm => by obtain ⟨k, hk⟩ := (h.ok.idle j).1 hm; rw [plcAt_eq hk] at h0; exact h0 rfl
  have hor : ∀ l' : List Nat, l'.Sublist s.idle → j ∉ l' → l'.Pairwise fun x y => ∀ v ∈ bk.set a (u.1, u.2.1 + 1, u.2.2.1, u.2.2.2), ∀ z ∈ bk.set a (u.1, u.2.1 + 1, u.2.2.1, u.2.2.2), v.1 = (plcAt (hitT s key j) x).1 → z.1 = (plcAt (hitT s key j) y).1 → v.2.2.2 < z.2.2.2 := fun l' hsub hnj => by
    refine (h.ord.sublist hsub).imp_of_mem fun {x y} hx hy hxy => ?_
    intro v hv z hz ev ez
    have hxj : x ≠ j := fun e => hnj (e ▸ hx)
    have hyj : y ≠ j := fun e => hnj (e ▸ hy)
    rw [hkp x hxj] at ev
    rw [hkp y hyj] at ez
    have n1 : v.1 ≠ u.1 := by rw [ev, e2]; exact hidk x (hsub.subset hx) hxj
    have n2 : z.1 ≠ u.1 := by rw [ez, e2]; exact hidk y (hsub.subset hy) hyj
    exact hxy v (old_setU h.keys hu (y := (u.1, u.2.1 + 1, u.2.2.1, u.2.2.2)) rfl hv n1) z (old_setU h.keys hu (y := (u.1, u.2.1 + 1, u.2.2.1, u.2.2.2)) rfl hz n2) ev ez
  refine ⟨⟨j, hO⟩, h.ok.get key, ?_, keys_setU h.keys hu rfl, ?_, fun v hv => ?_, ?_⟩
  · rw [hT]
    obtain ⟨R, r1, r2⟩ := perm_setU (f := lineU) (y := (u.1, u.2.1 + 1, u.2.2.1, u.2.2.2)) hu
    obtain ⟨R', q1, q2⟩ := perm_set (y := (key, (plcAt s j).2 + 1)) hj
    have hx : lineU u = (key, u.2.1 - u.2.2.1) := by unfold lineU; rw [e2]
    rw [hx] at r2
    have hR : R.Perm R' := ((r2.symm.trans h.perm).trans q2).cons_inv
    refine r1.trans (List.Perm.trans ?_ q1.symm)
    have hy : lineU (u.1, u.2.1 + 1, u.2.2.1, u.2.2.2) = (key, (plcAt s j).2 + 1) := by unfold lineU; rw [hp, ← e2]; show (u.1, u.2.1 + 1 - u.2.2.1) = _; congr 1; omega
    rw [hy]
    exact hR.cons _
  · rw [hT]
    show (if (plcAt s j).2 = 0 then s.idle.filter (fun x => !decide (x = j)) else s.idle).Pairwise _
    split
    · exact hor _ List.filter_sublist (by simp)
    · rename_i h0; exact hor _ (List.Sublist.refl _) (hni h0)
  · rcases mem_setU hv with rfl | hv
    · dsimp only; omega
    · have := h.bnd v hv; omega
  · rw [hT, List.length_set]
    have hc := h.cnt
    have hls := len_set (f := busyK) (y := some (key, (plcAt s j).2 + 1)) hj
    have b2 : (busyK (some (key, (plcAt s j).2 + 1))).isSome = true := by unfold busyK; dsimp only; rw [if_pos (by omega)]; rfl
    rw [b2, if_pos rfl] at hls
    show (if (plcAt s j).2 = 0 then s.idle.filter (fun x => !decide (x = j)) else s.idle).length + ((s.ps.set j (some (key, (plcAt s j).2 + 1))).filterMap busyK).length = _
    by_cases hz : (plcAt s j).2 = 0
    · have b1 : (busyK (some (key, u.2.1 - u.2.2.1))).isSome = false := by unfold busyK; dsimp only; rw [if_neg (by omega)]; rfl
      rw [b1, if_neg (by simp)] at hls
      have hm : j ∈ s.idle := (h.ok.idle j).2 ⟨key, by rw [hj, ← hp, hz]⟩
      have := filter_len h.ok.nodup hm
      rw [if_pos hz]
      omega
    · have b1 : (busyK (some (key, u.2.1 - u.2.2.1))).isSome = true := by unfold busyK; dsimp only; rw [if_pos (by omega)]; rfl
      rw [b1, if_pos rfl] at hls
      rw [if_neg hz]
      omega
/-- a key that is not there, and a place that is free -/
theorem OSim.fresh (h : OSim s bk i) (hf : findU bk key = none) (hl : bk.length < s.ps.length) : (∃ j, getO s key = .fresh j) ∧ OSim (getT s key) (bk ++ [(key, 1, 0, 0)]) (i + 1) := by
  have hs := h.find_none hf
  obtain ⟨j, hj⟩ : ∃ j, freeS s = some j := by
    cases hfr : freeS s with
    | some j => exact ⟨j, rfl⟩
    | none => have := full_len (freeS_none hfr); rw [← h.len] at this; omega
  obtain ⟨hp, hlt⟩ := freeS_some hj
  have hO : getO s key = .fresh j := by unfold getO; rw [hs]; dsimp only; rw [hj]
  have hT : getT s key = freshT s key j := by unfold getT; rw [hO]
  have hkp : ∀ q, q ≠ j → plcAt (freshT s key j) q = plcAt s q := fun q hq => by unfold plcAt freshT; dsimp only; rw [getElem?_set_ne _ hq]
  have hij : ∀ q ∈ s.idle, q ≠ j ∧ (plcAt s q).1 ≠ key := fun q hq => by
    obtain ⟨k, hk⟩ := (h.ok.idle q).1 hq
    refine ⟨fun e => (by subst e; rw [hp] at hk; cases hk), fun e => ?_⟩
    rw [plcAt_eq hk] at e
    dsimp only at e
    subst e
    exact slotS_none hs q 0 hk
  refine ⟨⟨j, hO⟩, h.ok.get key, ?_, ?_, ?_, fun v hv => ?_, ?_⟩
  · rw [hT, List.map_append]
    refine (List.perm_append_singleton _ _).trans ?_
    exact (h.perm.cons _).trans (perm_fresh hp).symm
  · exact List.pairwise_append.2 ⟨h.keys, List.pairwise_singleton .., fun x hx y hy => by obtain rfl := List.mem_singleton.1 hy; exact findU_none hf x hx⟩
  · rw [hT]
    show s.idle.Pairwise _
    refine h.ord.imp_of_mem fun {x y} hx hy hxy => ?_
    intro v hv z hz ev ez
    rw [hkp x (hij x hx).1] at ev
    rw [hkp y (hij y hy).1] at ez
    refine hxy v ?_ z ?_ ev ez
    · rcases List.mem_append.1 hv with h1 | h1
      · exact h1
      · obtain rfl := List.mem_singleton.1 h1; exact absurd ev.symm (hij x hx).2
    · rcases List.mem_append.1 hz with h1 | h1
      · exact h1
      · obtain rfl := List.mem_singleton.1 h1; exact absurd ez.symm (hij y hy).2
  · rcases List.mem_append.1 hv with hv | hv
    · have := h.bnd v hv; omega
    · obtain rfl := List.mem_singleton.1 hv; dsimp only; omega
  · rw [hT, List.length_append, List.length_singleton]
    have hc := h.cnt
    have hls := len_set (f := busyK) (y := some (key, 1)) hp
    have b1 : (busyK none).isSome = false := rfl
    have b2 : (busyK (some (key, 1))).isSome = true := rfl
    rw [b1, b2, if_neg (by simp), if_pos rfl] at hls
    show s.idle.length + ((s.ps.set j (some (key, 1))).filterMap busyK).length = _
    omega
theorem perm_without {bk : List U4} (hk : bk.Pairwise fun u v => u.1 ≠ v.1) {u : U4} (hu : u ∈ bk) : bk.Perm (u :: withoutU bk u.1) := by
  induction bk with
  | nil => cases hu
  | cons x l ih =>
    rw [List.pairwise_cons] at hk
    by_cases e : x = u
    · subst e
      unfold withoutU
      rw [List.filter_cons_of_neg (by simp), List.filter_eq_self.2 fun y hy => by simpa using fun e => hk.1 y hy e.symm]
    · have hu' : u ∈ l := (List.mem_cons.1 hu).resolve_left (fun h => e h.symm)
      have hne : x.1 ≠ u.1 := hk.1 u hu'
      have : withoutU (x :: l) u.1 = x :: withoutU l u.1 := List.filter_cons_of_pos (by simpa using hne)
      rw [this]
      exact ((ih hk.2 hu').cons x).trans (List.Perm.swap ..)
/-- the book's best line is the one whose place stands first among the idle ones -/
theorem OSim.best (h : OSim s bk i) : (bestU bk bk.length = none ∧ s.idle = []) ∨ ∃ b u j l, bestU bk bk.length = some b ∧ bk[b]? = some u ∧ idleU u ∧ s.idle = j :: l ∧ s.ps[j]? = some (some (u.1, 0)) := by
  cases hb : bestU bk bk.length with
  | none =>
    refine .inl ⟨rfl, ?_⟩
    cases hi : s.idle with
    | nil => rfl
    | cons j l =>
      exfalso
      obtain ⟨k, hk⟩ := (h.ok.idle j).1 (by rw [hi]; exact List.mem_cons_self ..)
      obtain ⟨u, hu, e⟩ := h.line hk
      obtain ⟨a, ha, hua⟩ := List.getElem_of_mem hu
      refine bestU_none hb a u ha (by rw [List.getElem?_eq_getElem ha, hua]) ?_
      have := congrArg Prod.snd e
      have this : u.2.1 - u.2.2.1 = 0 := this
      show u.2.1 = u.2.2.1
      omega
  | some b =>
    obtain ⟨u, hu, hid, hmin⟩ := bestU_some hb
    have hum := List.mem_of_getElem? hu
    obtain ⟨q, hq⟩ := h.place hum
    have h0 : u.2.1 - u.2.2.1 = 0 := by have : u.2.1 = u.2.2.1 := hid; omega
    have hq' : s.ps[q]? = some (some (u.1, 0)) := by rw [hq]; unfold lineU; rw [h0]
    have hqi := (h.ok.idle q).2 ⟨_, hq'⟩
    cases hi : s.idle with
    | nil => rw [hi] at hqi; cases hqi
    | cons j l =>
      refine .inr ⟨b, u, j, l, rfl, hu, hid, rfl, ?_⟩
      rw [hi] at hqi
      rcases List.mem_cons.1 hqi with rfl | hql
      · exact hq'
      · exfalso
        obtain ⟨k, hk⟩ := (h.ok.idle j).1 (by rw [hi]; exact List.mem_cons_self ..)
        obtain ⟨u0, hu0, e0⟩ := h.line hk
        have ho := h.ord
        rw [hi, List.pairwise_cons] at ho
        have hlt := ho.1 q hql u0 hu0 u hum (by rw [plcAt_eq hk]; exact congrArg Prod.fst e0) (by rw [plcAt_eq hq'])
        obtain ⟨a, ha, hua⟩ := List.getElem_of_mem hu0
        have e2 : u0.2.1 - u0.2.2.1 = 0 := congrArg Prod.snd e0
        have := hmin a u0 ha (by rw [List.getElem?_eq_getElem ha, hua]) (by show u0.2.1 = u0.2.2.1; omega)
        omega
/-- a key that is not there, no place that is free -/
theorem OSim.starve (h : OSim s bk i) (hf : findU bk key = none) (hl : ¬ bk.length < s.ps.length) (hb : bestU bk bk.length = none) : getO s key = .starved ∧ getT s key = s := by
  have hs := h.find_none hf
  have hfr : freeS s = none := by
    cases hfr : freeS s with
    | none => rfl
    | some j => have := free_len (freeS_some hfr).1; rw [← h.len] at this; omega
  have hi : s.idle = [] := by
    rcases h.best with ⟨_, e⟩ | ⟨b, _, _, _, e, _⟩
    · exact e
    · rw [hb] at e; cases e
  have hO : getO s key = .starved := by unfold getO; rw [hs]; dsimp only; rw [hfr]; dsimp only; rw [hi]
  exact ⟨hO, by unfold getT; rw [hO]⟩
theorem OSim.evict (h : OSim s bk i) (hf : findU bk key = none) (hl : ¬ bk.length < s.ps.length) {b : Nat} {u : U4} (hb : bestU bk bk.length = some b) (hu : bk[b]? = some u) : (∃ j, getO s key = .evict j u.1) ∧ OSim (getT s key) (withoutU bk u.1 ++ [(key, 1, 0, 0)]) (i + 1) := by
  have hs := h.find_none hf
  have hfr : freeS s = none := by
    cases hfr : freeS s with
    | none => rfl
    | some j => have := free_len (freeS_some hfr).1; rw [← h.len] at this; omega
  obtain ⟨j, l, hid, hi, hj⟩ : ∃ j l, idleU u ∧ s.idle = j :: l ∧ s.ps[j]? = some (some (u.1, 0)) := by
    rcases h.best with ⟨e, _⟩ | ⟨b', u', j, l, e1, e2, e3, e4, e5⟩
    · rw [hb] at e; cases e
    · rw [hb] at e1; cases e1; rw [hu] at e2; cases e2; exact ⟨j, l, e3, e4, e5⟩
  have hO : getO s key = .evict j u.1 := by unfold getO; rw [hs]; dsimp only; rw [hfr]; dsimp only; rw [hi]; dsimp only; rw [plcAt_eq hj]
  have hT : getT s key = evictT s key j := by unfold getT; rw [hO]
  have hum := List.mem_of_getElem? hu
  have hpw := perm_without h.keys hum
  have hnd := h.ok.nodup
  rw [hi, List.nodup_cons] at hnd
  have hkp : ∀ q, q ≠ j → plcAt (evictT s key j) q = plcAt s q := fun q hq => by unfold plcAt evictT; dsimp only; rw [getElem?_set_ne _ hq]
  have hij : ∀ q ∈ l, q ≠ j ∧ (plcAt s q).1 ≠ key := fun q hq => by
    obtain ⟨k, hk⟩ := (h.ok.idle q).1 (by rw [hi]; exact List.mem_cons_of_mem _ hq)
    refine ⟨fun e => (by subst e; exact hnd.1 hq), fun e => ?_⟩
    rw [plcAt_eq hk] at e
    dsimp only at e
    subst e
    exact slotS_none hs q 0 hk
  refine ⟨⟨j, hO⟩, h.ok.get key, ?_, ?_, ?_, fun v hv => ?_, ?_⟩
  · rw [hT, List.map_append]
    obtain ⟨R', q1, q2⟩ := perm_set (y := (key, (1 : Int))) hj
    have hx : lineU u = (u.1, 0) := by unfold lineU; rw [show u.2.1 = u.2.2.1 from hid, Int.sub_self]
    have h1 := hpw.map lineU
    rw [List.map_cons, hx] at h1
    have hR : ((withoutU bk u.1).map lineU).Perm R' := ((h1.symm.trans h.perm).trans q2).cons_inv
    refine (List.perm_append_singleton _ _).trans (List.Perm.trans ?_ q1.symm)
    exact hR.cons _
  · exact List.pairwise_append.2 ⟨h.keys.sublist List.filter_sublist, List.pairwise_singleton .., fun x hx y hy => by obtain rfl := List.mem_singleton.1 hy; exact findU_none hf x (List.mem_filter.1 hx).1⟩
  · rw [hT]
    show (s.idle.drop 1).Pairwise _
    rw [hi, List.drop_succ_cons, List.drop_zero]
    have ho := h.ord
    rw [hi, List.pairwise_cons] at ho
    refine ho.2.imp_of_mem fun {x y} hx hy hxy => ?_
    intro v hv z hz ev ez
    rw [hkp x (hij x hx).1] at ev
    rw [hkp y (hij y hy).1] at ez
    refine hxy v ?_ z ?_ ev ez
    · rcases List.mem_append.1 hv with h1 | h1
      · exact (List.mem_filter.1 h1).1
      · obtain rfl := List.mem_singleton.1 h1; exact absurd ev.symm (hij x hx).2
    · rcases List.mem_append.1 hz with h1 | h1
      · exact (List.mem_filter.1 h1).1
      · obtain rfl := List.mem_singleton.1 h1; exact absurd ez.symm (hij y hy).2
  · rcases List.mem_append.1 hv with hv | hv
    · have := h.bnd v (List.mem_filter.1 hv).1; omega
    · obtain rfl := List.mem_singleton.1 hv; dsimp only; omega
  · rw [hT, List.length_append, List.length_singleton]
    have hc := h.cnt
    have hpl := hpw.length_eq
    rw [List.length_cons] at hpl
    have hls := len_set (f := busyK) (y := some (key, 1)) hj
    have b1 : (busyK (some (u.1, 0))).isSome = false := rfl
    have b2 : (busyK (some (key, 1))).isSome = true := rfl
    rw [b1, b2, if_neg (by simp), if_pos rfl] at hls
    show (s.idle.drop 1).length + ((s.ps.set j (some (key, 1))).filterMap busyK).length = _
    rw [hi] at hc ⊢
    rw [List.drop_succ_cons, List.drop_zero]
    rw [List.length_cons] at hc
    omega
end
end Go.Proofs.Ytiidheknlacioaa
