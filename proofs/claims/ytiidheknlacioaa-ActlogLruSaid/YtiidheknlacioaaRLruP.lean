/- The document's Lru beside the program's, plain. -/
import Derived.Test.YtiidheknlacioaaOldP
namespace Go.Proofs.Ytiidheknlacioaa
set_option linter.unusedVariables false
set_option linter.unusedSimpArgs false
/-- a cell: taken, key, references, when given back -/
abbrev Cel := Bool × Int × Int × Int
structure RLru where
  cs : List Cel
  puts : Int
def plcOf (c : Cel) : Plc := if c.1 = true then some (c.2.1, c.2.2.1) else none
def givenAt (r : RLru) (i : Nat) : Int := (r.cs[i]?.getD (false, 0, 0, 0)).2.2.2
def rSlot (cs : List Cel) (key : Int) : Option Nat := cs.findIdx? fun c => c.1 && c.2.1 == key
def rFree (cs : List Cel) : Option Nat := cs.findIdx? fun c => !c.1
/-- a cell as a line: idle just where it is taken without a reference -/
def celU (c : Cel) : U4 := (0, if c.1 = true ∧ c.2.2.1 = 0 then 0 else 1, 0, c.2.2.2)
def rIdle (cs : List Cel) (k : Nat) : Option Nat := bestU (cs.map celU) k
def setC (r : RLru) (i : Nat) (c : Cel) : RLru := { r with cs := r.cs.set i c }
def celAt (r : RLru) (i : Nat) : Cel := r.cs[i]?.getD (false, 0, 0, 0)
def rGetT (r : RLru) (s : LruS) (key : Int) : RLru := match getO s key with
  | .hit i => setC r i (true, key, (celAt r i).2.2.1 + 1, (celAt r i).2.2.2)
  | .fresh i => setC r i (true, key, 1, 0)
  | .evict i _ => setC r i (true, key, 1, 0)
  | .starved => r
def rPutT (r : RLru) (s : LruS) (key : Int) : RLru := match slotS s key with
  | none => r
  | some i => if (plcAt s i).2 = 0 then r else ⟨r.cs.set i (true, key, (celAt r i).2.2.1 - 1, r.puts + 1), r.puts + 1⟩
def keyT (t : Int) (c : Cel) : Option Int := if c.1 = true ∧ c.2.2.1 = 0 ∧ c.2.2.2 = t then some c.2.1 else none
def keyB (c : Cel) : Option Int := if c.1 = true ∧ 0 < c.2.2.1 then some c.2.1 else none
/-- what the document's Keys gathers up to time t -/
def rKeysT (cs : List Cel) (t : Nat) : List Int := (List.range t).flatMap fun (q : Nat) => cs.filterMap (keyT (((q : Nat) : Int) + 1))
def rRefs (r : RLru) (key : Int) : Int := match rSlot r.cs key with | none => 0 | some i => (celAt r i).2.2.1
def rKeys (r : RLru) : List Int := rKeysT r.cs r.puts.toNat ++ r.cs.filterMap keyB
structure RSim (s : LruS) (r : RLru) : Prop where
  ok : LruOk s
  ps : r.cs.map plcOf = s.ps
  ord : s.idle.Pairwise fun a b => givenAt r a < givenAt r b
  giv : ∀ i ∈ s.idle, 1 ≤ givenAt r i ∧ givenAt r i ≤ r.puts
  p0 : 0 ≤ r.puts
section
variable {s : LruS} {r : RLru} {key : Int}
theorem RSim.len (h : RSim s r) : r.cs.length = s.ps.length := by rw [← h.ps, List.length_map]
theorem RSim.cel (h : RSim s r) {i : Nat} {k n : Int} (hi : s.ps[i]? = some (some (k, n))) : ∃ g, r.cs[i]? = some (true, k, n, g) ∧ givenAt r i = g ∧ celAt r i = (true, k, n, g) := by
  rw [← h.ps, List.getElem?_map] at hi
  obtain ⟨c, hc, e⟩ := Option.map_eq_some_iff.1 hi
  unfold plcOf at e
  split at e
  · rename_i h1
    simp only [Option.some.injEq, Prod.mk.injEq] at e
    obtain ⟨u, k', n', g⟩ := c
    obtain ⟨rfl, rfl⟩ := e
    have h1 : u = true := h1
    subst h1
    exact ⟨g, hc, by unfold givenAt; rw [hc]; rfl, by unfold celAt; rw [hc]; rfl⟩
  · cases e
theorem RSim.cel_none (h : RSim s r) {i : Nat} (hi : s.ps[i]? = some none) : ∃ k n g, r.cs[i]? = some (false, k, n, g) := by
  rw [← h.ps, List.getElem?_map] at hi
  obtain ⟨c, hc, e⟩ := Option.map_eq_some_iff.1 hi
  unfold plcOf at e
  split at e
  · cases e
  · rename_i h1
    obtain ⟨u, k', n', g⟩ := c
    have h1 : u = false := by simpa using h1
    subst h1
    exact ⟨k', n', g, hc⟩
theorem findIdx_map {α β : Type} (f : α → β) (p : β → Bool) (l : List α) : (l.map f).findIdx? p = l.findIdx? fun x => p (f x) := by
  induction l with
  | nil => rfl
  | cons x l ih => rw [List.map_cons, List.findIdx?_cons, List.findIdx?_cons, ih]
theorem RSim.slot (h : RSim s r) (key : Int) : rSlot r.cs key = slotS s key := by
  unfold rSlot slotS
  rw [← h.ps, findIdx_map]
  congr 1
  funext c
  unfold isKeyP plcOf
  cases c.1 <;> simp
theorem RSim.free (h : RSim s r) : rFree r.cs = freeS s := by
  unfold rFree freeS
  rw [← h.ps, findIdx_map]
  congr 1
  funext c
  unfold plcOf
  cases c.1 <;> simp
theorem getElem?_mapU {cs : List Cel} {i : Nat} {c : Cel} (h : cs[i]? = some c) : (cs.map celU)[i]? = some (celU c) := by rw [List.getElem?_map, h]; rfl
/-- the document's idle cell is the first idle place -/
theorem RSim.idle (h : RSim s r) : rIdle r.cs r.cs.length = s.idle.head? := by
  unfold rIdle
  have hl : (r.cs.map celU).length = r.cs.length := List.length_map _
  have hc : ∀ (i : Nat), i ∈ s.idle ↔ ∃ c, r.cs[i]? = some c ∧ idleU (celU c) := fun i => by
    rw [h.ok.idle i]
    constructor
    · rintro ⟨k, hk⟩
      obtain ⟨g, hg, _, _⟩ := h.cel hk
      exact ⟨_, hg, by unfold idleU celU; simp⟩
    · rintro ⟨c, hc, hi⟩
      unfold idleU celU at hi
      dsimp only at hi
      split at hi
      · rename_i hcc
        refine ⟨c.2.1, ?_⟩
        rw [← h.ps, List.getElem?_map, hc]
        unfold plcOf
        rw [Option.map_some, if_pos hcc.1, hcc.2]
      · cases hi
  cases hb : bestU (r.cs.map celU) r.cs.length with
  | none =>
    cases hi : s.idle with
    | nil => rfl
    | cons j l =>
      exfalso
      obtain ⟨c, hcj, hic⟩ := (hc j).1 (by rw [hi]; exact List.mem_cons_self ..)
      exact bestU_none hb j (celU c) (by have := (List.getElem?_eq_some_iff.1 hcj).1; omega) (getElem?_mapU hcj) hic
  | some b =>
    obtain ⟨u, hu, hiu, hmin⟩ := bestU_some hb
    rw [List.getElem?_map] at hu
    obtain ⟨c, hcb, rfl⟩ := Option.map_eq_some_iff.1 hu
    have hbm := (hc b).2 ⟨c, hcb, hiu⟩
    have hgb : givenAt r b = c.2.2.2 := by unfold givenAt; rw [hcb]; rfl
    cases hi : s.idle with
    | nil => rw [hi] at hbm; cases hbm
    | cons j l =>
      rw [hi] at hbm
      rcases List.mem_cons.1 hbm with rfl | hbl
      · rfl
      · exfalso
        obtain ⟨cj, hcj, hicj⟩ := (hc j).1 (by rw [hi]; exact List.mem_cons_self ..)
        have ho := h.ord
        rw [hi, List.pairwise_cons] at ho
        have hlt := ho.1 b hbl
        have hgj : givenAt r j = cj.2.2.2 := by unfold givenAt; rw [hcj]; rfl
        have := hmin j (celU cj) (by have := (List.getElem?_eq_some_iff.1 hcj).1; omega) (getElem?_mapU hcj) hicj
        have : c.2.2.2 ≤ cj.2.2.2 := this
        omega
theorem map_setC {l : List Cel} {i : Nat} {c : Cel} : (l.set i c).map plcOf = (l.map plcOf).set i (plcOf c) := List.map_set ..
theorem given_set_ne {r : RLru} {i j : Nat} {c : Cel} {p : Int} (h : j ≠ i) : givenAt ⟨r.cs.set i c, p⟩ j = givenAt r j := by unfold givenAt; dsimp only; rw [getElem?_set_ne _ h]
theorem RSim.get (h : RSim s r) (key : Int) : RSim (getT s key) (rGetT r s key) := by
  have hok := h.ok.get key
  unfold getT rGetT at *
  cases hO : getO s key with
  | starved => exact h
  | hit i =>
    have hs : slotS s key = some i := by
      unfold getO at hO
      cases hs : slotS s key with
      | some j => rw [hs] at hO; cases hO; rfl
      | none =>
        rw [hs] at hO
        dsimp only at hO
        cases hf : freeS s with
        | some j => rw [hf] at hO; cases hO
        | none =>
          rw [hf] at hO
          dsimp only at hO
          cases hi : s.idle with
          | nil => rw [hi] at hO; cases hO
          | cons j l => rw [hi] at hO; cases hO
    obtain ⟨h1, hlt, _⟩ := slotS_some hs
    obtain ⟨g, hg, hg2, hg3⟩ := h.cel h1
    rw [hO] at hok
    dsimp only at hok ⊢
    have hsub : (hitT s key i).idle.Sublist s.idle := by
      show (if _ then s.idle.filter _ else s.idle).Sublist _
      split
      · exact List.filter_sublist
      · exact List.Sublist.refl _
    have hni : i ∉ (hitT s key i).idle := by
      show i ∉ (if _ then s.idle.filter _ else s.idle)
      split
      · simp
      · rename_i h0; intro hm; obtain ⟨k, hk⟩ := (h.ok.idle i).1 hm; rw [plcAt_eq hk] at h0; exact h0 rfl
    refine ⟨hok, ?_, ?_, fun j hj => ?_, h.p0⟩
    · show (r.cs.set i _).map plcOf = s.ps.set i _
      rw [map_setC, h.ps, hg3]
      unfold plcOf
      rw [if_pos rfl]
    · refine (h.ord.sublist hsub).imp_of_mem fun {a b} ha hb hab => ?_
      have na : a ≠ i := fun e => hni (e ▸ ha)
      have nb : b ≠ i := fun e => hni (e ▸ hb)
      show givenAt ⟨r.cs.set i _, _⟩ a < givenAt ⟨r.cs.set i _, _⟩ b
      rw [given_set_ne na, given_set_ne nb]
      exact hab
    · have nj : j ≠ i := fun e => hni (e ▸ hj)
      show 1 ≤ givenAt ⟨r.cs.set i _, _⟩ j ∧ givenAt ⟨r.cs.set i _, _⟩ j ≤ _
      rw [given_set_ne nj]
      exact h.giv j (hsub.subset hj)
  | fresh i =>
    have hf : slotS s key = none ∧ freeS s = some i := by
      unfold getO at hO
      cases hs : slotS s key with
      | some j => rw [hs] at hO; cases hO
      | none =>
        rw [hs] at hO
        dsimp only at hO
        cases hf : freeS s with
        | some j => rw [hf] at hO; cases hO; exact ⟨rfl, rfl⟩
        | none =>
          rw [hf] at hO
          dsimp only at hO
          cases hi : s.idle with
          | nil => rw [hi] at hO; cases hO
          | cons j l => rw [hi] at hO; cases hO
    obtain ⟨h1, hlt⟩ := freeS_some hf.2
    have hni : i ∉ s.idle := fun hm => by obtain ⟨k, hk⟩ := (h.ok.idle i).1 hm; rw [h1] at hk; cases hk
    rw [hO] at hok
    dsimp only at hok ⊢
    refine ⟨hok, ?_, ?_, fun j hj => ?_, h.p0⟩
    · show (r.cs.set i _).map plcOf = s.ps.set i _
      rw [map_setC, h.ps]
      unfold plcOf
      rw [if_pos rfl]
    · show s.idle.Pairwise _
      refine h.ord.imp_of_mem fun {a b} ha hb hab => ?_
      have na : a ≠ i := fun e => hni (e ▸ ha)
      have nb : b ≠ i := fun e => hni (e ▸ hb)
      show givenAt ⟨r.cs.set i _, _⟩ a < givenAt ⟨r.cs.set i _, _⟩ b
      rw [given_set_ne na, given_set_ne nb]
      exact hab
    · have hj : j ∈ s.idle := hj
      have nj : j ≠ i := fun e => hni (e ▸ hj)
      show 1 ≤ givenAt ⟨r.cs.set i _, _⟩ j ∧ givenAt ⟨r.cs.set i _, _⟩ j ≤ _
      rw [given_set_ne nj]
      exact h.giv j hj
  | evict i old =>
    have hi : ∃ l, s.idle = i :: l := by
      unfold getO at hO
      cases hs : slotS s key with
      | some j => rw [hs] at hO; cases hO
      | none =>
        rw [hs] at hO
        dsimp only at hO
        cases hf : freeS s with
        | some j => rw [hf] at hO; cases hO
        | none =>
          rw [hf] at hO
          dsimp only at hO
          cases hi : s.idle with
          | nil => rw [hi] at hO; cases hO
          | cons j l => rw [hi] at hO; cases hO; exact ⟨l, rfl⟩
    obtain ⟨l, hi⟩ := hi
    have hnd := h.ok.nodup
    rw [hi, List.nodup_cons] at hnd
    rw [hO] at hok
    dsimp only at hok ⊢
    have hid : (evictT s key i).idle = l := by show s.idle.drop 1 = l; rw [hi]; rfl
    have ho := h.ord
    rw [hi, List.pairwise_cons] at ho
    refine ⟨hok, ?_, ?_, fun j hj => ?_, h.p0⟩
    · show (r.cs.set i _).map plcOf = s.ps.set i _
      rw [map_setC, h.ps]
      unfold plcOf
      rw [if_pos rfl]
    · rw [hid]
      refine ho.2.imp_of_mem fun {a b} ha hb hab => ?_
      have na : a ≠ i := fun e => hnd.1 (e ▸ ha)
      have nb : b ≠ i := fun e => hnd.1 (e ▸ hb)
      show givenAt ⟨r.cs.set i _, _⟩ a < givenAt ⟨r.cs.set i _, _⟩ b
      rw [given_set_ne na, given_set_ne nb]
      exact hab
    · rw [hid] at hj
      have nj : j ≠ i := fun e => hnd.1 (e ▸ hj)
      show 1 ≤ givenAt ⟨r.cs.set i _, _⟩ j ∧ givenAt ⟨r.cs.set i _, _⟩ j ≤ _
      rw [given_set_ne nj]
      exact h.giv j (by rw [hi]; exact List.mem_cons_of_mem _ hj)
theorem RSim.put (h : RSim s r) (key : Int) : RSim (putT s key) (rPutT r s key) := by
  have hok := h.ok.put key
  unfold putT rPutT at *
  cases hs : slotS s key with
  | none => exact h
  | some i =>
    rw [hs] at hok
    dsimp only at hok ⊢
    by_cases h0 : (plcAt s i).2 = 0
    · rw [if_pos h0] at hok ⊢
      rw [if_pos h0]
      exact h
    · rw [if_neg h0] at hok ⊢
      rw [if_neg h0]
      obtain ⟨h1, hlt, _⟩ := slotS_some hs
      obtain ⟨g, hg, hg2, hg3⟩ := h.cel h1
      have hni : i ∉ s.idle := fun hm => by obtain ⟨k, hk⟩ := (h.ok.idle i).1 hm; rw [plcAt_eq hk] at h0; exact h0 rfl
      have hlc : i < r.cs.length := by rw [h.len]; exact hlt
      have hgi : givenAt ⟨r.cs.set i (true, key, (celAt r i).2.2.1 - 1, r.puts + 1), r.puts + 1⟩ i = r.puts + 1 := by unfold givenAt; dsimp only; rw [getElem?_set_at _ hlc]; rfl
      have hold : s.idle.Pairwise fun a b => givenAt ⟨r.cs.set i (true, key, (celAt r i).2.2.1 - 1, r.puts + 1), r.puts + 1⟩ a < givenAt ⟨r.cs.set i (true, key, (celAt r i).2.2.1 - 1, r.puts + 1), r.puts + 1⟩ b := by
        refine h.ord.imp_of_mem fun {a b} ha hb hab => ?_
        have na : a ≠ i := fun e => hni (e ▸ ha)
        have nb : b ≠ i := fun e => hni (e ▸ hb)
        rw [given_set_ne na, given_set_ne nb]
        exact hab
      have hgo : ∀ j ∈ s.idle, 1 ≤ givenAt ⟨r.cs.set i (true, key, (celAt r i).2.2.1 - 1, r.puts + 1), r.puts + 1⟩ j ∧ givenAt ⟨r.cs.set i (true, key, (celAt r i).2.2.1 - 1, r.puts + 1), r.puts + 1⟩ j ≤ r.puts := fun j hj => by
        have nj : j ≠ i := fun e => hni (e ▸ hj)
        rw [given_set_ne nj]
        exact h.giv j hj
      refine ⟨hok, ?_, ?_, fun j hj => ?_, by have := h.p0; show 0 ≤ r.puts + 1; omega⟩
      · show (r.cs.set i _).map plcOf = s.ps.set i _
        rw [map_setC, h.ps, hg3]
        unfold plcOf
        rw [if_pos rfl]
      · show (if _ then s.idle ++ [i] else s.idle).Pairwise _
        split
        · refine List.pairwise_append.2 ⟨hold, List.pairwise_singleton .., fun a ha b hb => ?_⟩
          obtain rfl := List.mem_singleton.1 hb
          rw [hgi]
          have := (hgo a ha).2
          omega
        · exact hold
      · have hj : j ∈ (if (plcAt s i).2 - 1 = 0 then s.idle ++ [i] else s.idle) := hj
        have hp0 := h.p0
        split at hj
        · rcases List.mem_append.1 hj with hj | hj
          · have := hgo j hj; show _ ∧ _ ≤ r.puts + 1; omega
          · obtain rfl := List.mem_singleton.1 hj
            rw [hgi]
            show _ ∧ _ ≤ r.puts + 1
            omega
        · have := hgo j hj; show _ ∧ _ ≤ r.puts + 1; omega
theorem RSim.new_ (n : Nat) : RSim (newL n) ⟨List.replicate n (false, 0, 0, 0), 0⟩ := by
  refine ⟨LruOk.new_ n, ?_, List.Pairwise.nil, (fun i hi => by cases hi), Int.le_refl _⟩
  show (List.replicate n (false, 0, 0, 0)).map plcOf = List.replicate n none
  rw [List.map_replicate]
  rfl
theorem RSim.refs (h : RSim s r) (key : Int) : rRefs r key = refsS s key := by
  unfold rRefs refsS
  rw [h.slot]
  cases hs : slotS s key with
  | none => rfl
  | some i =>
    obtain ⟨h1, _, _⟩ := slotS_some hs
    obtain ⟨g, _, _, hg⟩ := h.cel h1
    dsimp only
    rw [hg]
theorem sorted_split (f : Nat → Int) (n : Nat) : ∀ {l : List Nat}, (l.Pairwise fun a b => f a < f b) → l.filter (fun j => decide (f j ≤ (n : Int))) ++ l.filter (fun j => decide (f j = (n : Int) + 1)) = l.filter (fun j => decide (f j ≤ ((n + 1 : Nat) : Int)))
  | [], _ => rfl
  | x :: l, h => by
    rw [List.pairwise_cons] at h
    have ih := sorted_split f n h.2
    by_cases h1 : f x ≤ (n : Int)
    · have h2 : ¬ f x = (n : Int) + 1 := by omega
      have h3 : f x ≤ ((n + 1 : Nat) : Int) := by omega
      rw [List.filter_cons_of_pos (by simpa using h1), List.filter_cons_of_neg (by simpa using h2), List.filter_cons_of_pos (by simpa using h3), List.cons_append, ih]
    · have e1 : l.filter (fun j => decide (f j ≤ (n : Int))) = [] := List.filter_eq_nil_iff.2 fun j hj => by have := h.1 j hj; simp; omega
      have e2 : l.filter (fun j => decide (f j = (n : Int) + 1)) = [] := List.filter_eq_nil_iff.2 fun j hj => by have := h.1 j hj; simp; omega
      have e3 : l.filter (fun j => decide (f j ≤ ((n + 1 : Nat) : Int))) = [] := List.filter_eq_nil_iff.2 fun j hj => by have := h.1 j hj; simp; omega
      by_cases h2 : f x = (n : Int) + 1
      · have h3 : f x ≤ ((n + 1 : Nat) : Int) := by omega
        rw [List.filter_cons_of_neg (by simpa using h1), List.filter_cons_of_pos (by simpa using h2), List.filter_cons_of_pos (by simpa using h3), e1, e2, e3]
        rfl
      · have h3 : ¬ f x ≤ ((n + 1 : Nat) : Int) := by omega
        rw [List.filter_cons_of_neg (by simpa using h1), List.filter_cons_of_neg (by simpa using h2), List.filter_cons_of_neg (by simpa using h3), e1, e2, e3]
        rfl
theorem sorted_flat (f : Nat → Int) {l : List Nat} (h : l.Pairwise fun a b => f a < f b) (h1 : ∀ j ∈ l, 1 ≤ f j) : ∀ n : Nat, ((List.range n).flatMap fun (q : Nat) => l.filter fun j => decide (f j = ((q : Nat) : Int) + 1)) = l.filter fun j => decide (f j ≤ (n : Int))
  | 0 => (List.filter_eq_nil_iff.2 fun j hj => by have := h1 j hj; simp; omega).symm
  | n + 1 => by rw [List.range_succ, List.flatMap_append, sorted_flat f h h1 n, List.flatMap_singleton, sorted_split f n h]
theorem filterMap_one {α β : Type} {f : α → Option β} : ∀ {l : List α} {j : Nat} {c : α} {k : β}, l[j]? = some c → f c = some k → (∀ (i : Nat) (c' : α), i ≠ j → l[i]? = some c' → f c' = none) → l.filterMap f = [k]
  | [], _, _, _, h, _, _ => by cases h
  | x :: l, 0, c, k, h, hf, hn => by
    cases h
    rw [List.filterMap_cons_some hf]
    congr 1
    exact List.filterMap_eq_nil_iff.2 fun y hy => by
      obtain ⟨i, hi, e⟩ := List.getElem_of_mem hy
      exact hn (i + 1) y (by omega) (by rw [List.getElem?_cons_succ, List.getElem?_eq_getElem hi, e])
  | x :: l, j + 1, c, k, h, hf, hn => by
    rw [List.filterMap_cons_none (hn 0 x (by omega) rfl)]
    exact filterMap_one (j := j) h hf fun i c' hi hc => hn (i + 1) c' (by omega) hc
theorem filter_one {p : Nat → Bool} : ∀ {l : List Nat} {j : Nat}, l.Nodup → j ∈ l → p j = true → (∀ i ∈ l, i ≠ j → p i = false) → l.filter p = [j]
  | [], _, _, h, _, _ => by cases h
  | x :: l, j, hn, h, hp, hf => by
    rw [List.nodup_cons] at hn
    rcases List.mem_cons.1 h with rfl | h
    · rw [List.filter_cons_of_pos hp]
      congr 1
      exact List.filter_eq_nil_iff.2 fun i hi => by rw [hf i (List.mem_cons_of_mem _ hi) fun e => hn.1 (e ▸ hi)]; decide
    · have hx : x ≠ j := fun e => hn.1 (e ▸ h)
      rw [List.filter_cons_of_neg (by rw [hf x (List.mem_cons_self ..) hx]; decide)]
      exact filter_one hn.2 h hp fun i hi hij => hf i (List.mem_cons_of_mem _ hi) hij
theorem RSim.at_time (h : RSim s r) (t : Int) : r.cs.filterMap (keyT t) = (s.idle.filter fun j => decide (givenAt r j = t)).map fun i => (plcAt s i).1 := by
  have inj : ∀ a ∈ s.idle, ∀ b ∈ s.idle, givenAt r a = givenAt r b → a = b := by
    intro a ha b hb e
    obtain ⟨i, hi, ei⟩ := List.getElem_of_mem ha
    obtain ⟨j, hj, ej⟩ := List.getElem_of_mem hb
    have hp := List.pairwise_iff_getElem.1 h.ord
    rcases Nat.lt_trichotomy i j with hij | hij | hij
    · have := hp i j hi hj hij; rw [ei, ej] at this; omega
    · subst hij; rw [← ei, ← ej]
    · have := hp j i hj hi hij; rw [ei, ej] at this; omega
  have mem : ∀ (i : Nat) (c : Cel) (k : Int), r.cs[i]? = some c → keyT t c = some k → i ∈ s.idle ∧ givenAt r i = t := fun i c k hc hk => by
    unfold keyT at hk
    split at hk
    · rename_i hh
      refine ⟨(h.ok.idle i).2 ⟨c.2.1, ?_⟩, by unfold givenAt; rw [hc]; exact hh.2.2⟩
      rw [← h.ps, List.getElem?_map, hc]
      unfold plcOf
      rw [Option.map_some, if_pos hh.1, hh.2.1]
    · cases hk
  by_cases hex : ∃ j ∈ s.idle, givenAt r j = t
  · obtain ⟨j, hj, hg⟩ := hex
    rw [filter_one h.ok.nodup hj (by simpa using hg) fun i hi hij => by simpa using fun e => hij (inj i hi j hj (e.trans hg.symm))]
    obtain ⟨k, hk⟩ := (h.ok.idle j).1 hj
    obtain ⟨g, hc, hg2, _⟩ := h.cel hk
    refine filterMap_one hc (k := k) ?_ (fun i c' hij hc' => ?_) |>.trans ?_
    · unfold keyT
      rw [if_pos ⟨rfl, rfl, by rw [← hg2]; exact hg⟩]
    · cases hkk : keyT t c' with
      | none => rfl
      | some k' => obtain ⟨m1, m2⟩ := mem i c' k' hc' hkk; exact absurd (inj i m1 j hj (m2.trans hg.symm)) hij
    · show [k] = [(plcAt s j).1]
      rw [plcAt_eq hk]
  · rw [List.filter_eq_nil_iff.2 fun j hj => by simpa using fun e => hex ⟨j, hj, e⟩]
    refine List.filterMap_eq_nil_iff.2 fun c hc => ?_
    obtain ⟨i, hi, e⟩ := List.getElem_of_mem hc
    cases hkk : keyT t c with
    | none => rfl
    | some k' => exact absurd (mem i c k' (by rw [List.getElem?_eq_getElem hi, e]) hkk) fun m => hex ⟨i, m⟩
theorem RSim.keys (h : RSim s r) : rKeys r = keysS s := by
  unfold rKeys keysS
  congr 1
  · unfold rKeysT
    have : (fun (q : Nat) => r.cs.filterMap (keyT (((q : Nat) : Int) + 1))) = fun (q : Nat) => (s.idle.filter fun j => decide (givenAt r j = ((q : Nat) : Int) + 1)).map fun i => (plcAt s i).1 := funext fun q => h.at_time _
    rw [this, ← List.map_flatMap, sorted_flat (givenAt r) h.ord (fun j hj => (h.giv j hj).1)]
    congr 1
    refine List.filter_eq_self.2 fun j hj => ?_
    have := (h.giv j hj).2
    have := h.p0
    simp
    omega
  · rw [← h.ps, List.filterMap_map]
    congr 1
    funext c
    unfold keyB plcOf busyK
    rcases c with ⟨u, k, n, g⟩
    cases u <;> simp
end
end Go.Proofs.Ytiidheknlacioaa
