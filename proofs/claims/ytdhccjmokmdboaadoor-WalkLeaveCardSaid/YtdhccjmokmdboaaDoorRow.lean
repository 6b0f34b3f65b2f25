/- What a row's proof opens: a list of bytes that came in, with the form's own reach. Nothing here is about the program's functions. -/
import Derived.Test.YtdhccjmokmdboaaDoorMem
import Derived.ProofKit
import Derived.OpenShut
import Derived.ShutString
import Derived.ChangeOld
import Derived.SizedLaws
import Derived.Deep.Slices
import Derived.Deep.Fields
import Derived.ChangeSame
namespace Go.Proofs.YtdhccjmokmdboaaDoor
open Go.ChangeShapes Go.WideShapes Go.ChangeAt Go.RowKit

theorem vBs_ex : ∀ zs : List Int, (∀ n ∈ zs, (Lit.int .u8 n).wf = true) → ∃ l : List UInt8, zs = l.map vB
  | [], _ => ⟨[], rfl⟩
  | z :: zs, h => by
    obtain ⟨b, rfl⟩ := vB_ex (h z (List.mem_cons_self ..))
    obtain ⟨l, rfl⟩ := vBs_ex zs (fun n hn => h n (List.mem_cons_of_mem _ hn))
    exact ⟨b :: l, rfl⟩

/-- a list of bytes that came in -/
theorem open_bytes {H : Type} {enc : TypeId × Value → H} {P : Program} {W : World} {r : Reach} {base b0 t e j : Nat} {held : Bool} {ts : List TypeId} {ds : List (DataW H)} {v : Value} {d : DataW H} {p : List MemPlace}
    (ht : P.underlying t = some (.slice e)) (he : P.underlying e = some (.int .u8)) (hc : P.cellsOf e = 1) (hb : P.bytesOf e = 1)
    (hsz : (DataW.weightsEach P ts ds).all (· ≤ reachBytes) = true) (htj : ts[j]? = some t) (hdj : ds[j]? = some d)
    (hv : Value.okWide P W r base t v) (h : DataW.Trod enc P W b0 (fun _ => true) held t v d p) :
    ∃ (A : Option Addr) (c : Nat) (l : List UInt8), v = .slice A l.length c ∧ Rd encB W A l ∧ (A = none → l.length = 0 ∧ c = 0) ∧ l.length ≤ c ∧ c ≤ 140737488351232 := by
  obtain ⟨a, n, c, rfl⟩ := okWide_slice ht hv
  obtain ⟨fuel, hf⟩ := h
  rcases open_ints ht he hc hf with ⟨hcs, _⟩ | ⟨x, n', c', zs, hcs, _, hl, hm, hz, hx, hcell, hwz⟩
  · simp [Value.cells] at hcs
    obtain ⟨rfl, rfl, rfl⟩ := hcs
    exact ⟨none, 0, [], rfl, Rd.nil_, fun _ => ⟨rfl, rfl⟩, Nat.le_refl _, by omega⟩
  · simp [Value.cells] at hcs
    obtain ⟨rfl, rfl, rfl⟩ := hcs
    simp only [Prod.mk.injEq] at hx
    obtain ⟨rfl, rfl⟩ := hx
    simp only [if_true] at hz
    have hs := sized_slice hsz htj hdj ht
    rw [hb] at hs
    simp only [lits, List.length_map, List.length_take, List.length_drop, reachBytes] at hs
    obtain ⟨l, rfl⟩ := vBs_ex zs hwz
    have hll : (l.take n).length = n := by rw [List.length_map] at hz; rw [List.length_take]; omega
    refine ⟨some x, c, l.take n, by rw [hll], fun i b hi => ⟨x, rfl, ?_⟩, (fun e => by cases e), by omega, by omega⟩
    rw [List.getElem?_take] at hi
    split at hi
    · have hlt := (List.getElem?_eq_some_iff.1 hi).1
      rw [hcell i (by simpa using hlt), List.getD_eq_getElem?_getD, List.getElem?_map, hi]
      rfl
    · cases hi

section structs
open Go.Deep
section
variable {H : Type} {enc : TypeId × Value → H} {P : Program} {w : World} {base : Nat} {spare : Nat → Bool} {held : Bool}
theorem open_slice_fields {t e : TypeId} {fs : Array Field} {fuel : Nat} {cs : List Value} {x : DataW H × List MemPlace} (ht : P.underlying t = some (.slice e)) (he : P.underlying e = some (.struct fs))
    (hone : oneCellFields P fs = true) (hC : P.cellsOf e = fs.size) (h : DataW.trod enc P w base spare held fuel t cs = some x) :
    (cs = [.slice none 0 0] ∧ x = (.nil, [])) ∨
    ∃ (a : Addr) (len cap m : Nat) (D : Nat → DataW H) (Pl : Nat → List MemPlace), cs = [.slice (some a) len cap] ∧ base ≤ a.block ∧ len ≤ cap ∧ cap ≤ maxLen ∧ m = (if spare a.block then cap else len) ∧
      x = (.slice ((List.range len).map D) ((List.range (m - len)).map fun j => D (len + j)), MemPlace.row a (m * fs.size) ++ (List.range m).flatMap Pl) ∧
      ∀ i, i < m → ∃ (ys : List (DataW H × List MemPlace)) (n : Nat), D i = .agg (ys.map (·.1)) ∧ Pl i = ys.flatMap (·.2) ∧ ys.length = fs.size ∧
        ∀ (j : Nat) (f : Field), fs[j]? = some f → ∃ (v : Value) (y : DataW H × List MemPlace), w.cell? (a.add (i * fs.size + j)) = some v ∧ ys[j]? = some y ∧ DataW.trod enc P w base spare held n f.type [v] = some y := by
  rcases open_slice ht h with h0 | ⟨a, len, cap, m, n, D, Pl, hcs, hb, hl, hm, hmm, hx, hi⟩
  · exact .inl h0
  · refine .inr ⟨a, len, cap, m, D, Pl, hcs, hb, hl, hm, hmm, by rw [hC] at hx; exact hx, fun i him => ?_⟩
    obtain ⟨cs', hc, ht'⟩ := hi i him
    rw [hC] at hc
    obtain ⟨ys, n', hn', hy, hlen, hyl, hf⟩ := DataW.trod_struct he ht'
    obtain ⟨_, hcl, hat⟩ := World.cells?_some hc
    simp only [Prod.mk.injEq] at hy
    refine ⟨ys, n', hy.1, hy.2, hyl, fun j f hj => ?_⟩
    obtain ⟨ho, hk⟩ := hone_of hone j f hj
    have hjl : j < fs.size := (Array.getElem?_eq_some_iff.1 hj).1
    have hcell := hat j hjl
    have hv : cs'[j]? = some (cs'[j]'(by omega)) := List.getElem?_eq_getElem (by omega)
    have h1 := hf j f hj
    rw [ho, hk] at h1
    have hone' : (cs'.drop j).take 1 = [cs'[j]'(by omega)] := by
      rw [List.drop_eq_getElem_cons (by omega)]
      rfl
    rw [hone'] at h1
    have hys : ys[j]? = some (ys[j]'(by omega)) := List.getElem?_eq_getElem (by omega)
    refine ⟨_, _, ?_, hys, h1.trans hys⟩
    rw [← Go.Deep.add_add, hcell, hv]
end
/-- a list of structs that came in, every field one cell -/
theorem open_structs {H : Type} {enc : TypeId × Value → H} {P : Program} {W : World} {r : Reach} {base b0 t e j B : Nat} {fs : Array Field} {held : Bool} {ts : List TypeId} {ds : List (DataW H)} {v : Value} {d : DataW H} {p : List MemPlace}
    (ht : P.underlying t = some (.slice e)) (he : P.underlying e = some (.struct fs)) (hone : oneCellFields P fs = true) (hC : P.cellsOf e = fs.size) (h0 : 0 < fs.size) (hB : P.bytesOf e = B)
    (hsz : (DataW.weightsEach P ts ds).all (· ≤ reachBytes) = true) (htj : ts[j]? = some t) (hdj : ds[j]? = some d)
    (hv : Value.okWide P W r base t v) (h : DataW.Trod enc P W b0 (fun _ => true) held t v d p) :
    ∃ (A : Option Addr) (c : Nat) (l : List (List Value)), v = .slice A l.length c ∧ RdS id fs.size W A l ∧ (A = none → l.length = 0 ∧ c = 0) ∧ l.length ≤ c ∧ c * B ≤ 140737488351232 ∧ c ≤ 9223372036854775807 ∧
      ∀ x, x ∈ l → x.length = fs.size ∧ ∀ (j : Nat) (f : Field), fs[j]? = some f → ∃ (v : Value) (n : Nat) (y : DataW H × List MemPlace), x[j]? = some v ∧ DataW.trod enc P W b0 (fun _ => true) held n f.type [v] = some y := by
  obtain ⟨a, n, c, rfl⟩ := okWide_slice ht hv
  obtain ⟨fuel, hf⟩ := h
  rcases open_slice_fields ht he hone hC hf with ⟨hcs, _⟩ | ⟨x, n', c', m, D, Pl, hcs, _, hl, hm, hmm, hx, hi⟩
  · simp [Value.cells] at hcs
    obtain ⟨rfl, rfl, rfl⟩ := hcs
    exact ⟨none, 0, [], rfl, fun i x h => by simp at h, fun _ => ⟨rfl, rfl⟩, Nat.le_refl _, by omega, by omega, fun x h => by cases h⟩
  · simp [Value.cells] at hcs
    obtain ⟨rfl, rfl, rfl⟩ := hcs
    simp only [Prod.mk.injEq] at hx
    obtain ⟨rfl, rfl⟩ := hx
    simp only [if_true] at hmm
    have hmm' := hmm.symm
    subst hmm'
    have hs := sized_slice hsz htj hdj ht
    rw [hB] at hs
    simp only [List.length_map, List.length_range, reachBytes] at hs
    unfold maxLen at hm
    have row : ∀ i, i < n → ∃ l : List Value, l.length = fs.size ∧ (∀ j v, l[j]? = some v → W.cell? (x.add (i * fs.size + j)) = some v) ∧ ∀ (j : Nat) (f : Field), fs[j]? = some f → ∃ (v : Value) (n : Nat) (y : DataW H × List MemPlace), l[j]? = some v ∧ DataW.trod enc P W b0 (fun _ => true) held n f.type [v] = some y := by
      intro i hin
      obtain ⟨ys, q, _, _, _, hg⟩ := hi i (by omega)
      refine ⟨(List.range fs.size).map fun j => (W.cell? (x.add (i * fs.size + j))).getD undef, by simp, fun j v hj => ?_, fun j f hj => ?_⟩
      · rw [List.getElem?_map] at hj
        obtain ⟨j', hj', rfl⟩ := Option.map_eq_some_iff.1 hj
        have hlt := (List.getElem?_eq_some_iff.1 hj').1
        have hlt' : j < fs.size := by simpa using hlt
        rw [List.getElem?_range hlt'] at hj'
        cases hj'
        obtain ⟨v, y, hc, _⟩ := hg j fs[j] (Array.getElem?_eq_getElem hlt')
        rw [hc]
        rfl
      · have hlt := (Array.getElem?_eq_some_iff.1 hj).1
        obtain ⟨v, y, hc, _, ht⟩ := hg j f hj
        refine ⟨v, q, y, ?_, ht⟩
        rw [List.getElem?_map, List.getElem?_range hlt]
        simp [hc]
    have ex : ∀ k, k ≤ n → ∃ l : List (List Value), l.length = k ∧ ∀ i y, l[i]? = some y → y.length = fs.size ∧ (∀ j v, y[j]? = some v → W.cell? (x.add (i * fs.size + j)) = some v) ∧ ∀ (j : Nat) (f : Field), fs[j]? = some f → ∃ (v : Value) (n : Nat) (z : DataW H × List MemPlace), y[j]? = some v ∧ DataW.trod enc P W b0 (fun _ => true) held n f.type [v] = some z := by
      intro k
      induction k with
      | zero => exact fun _ => ⟨[], rfl, fun i y h => by simp at h⟩
      | succ k ih =>
        intro hk
        obtain ⟨l, hl1, hl2⟩ := ih (by omega)
        obtain ⟨z, hz⟩ := row k (by omega)
        refine ⟨l ++ [z], by simp [hl1], fun i y hy => ?_⟩
        rcases Nat.lt_or_ge i k with hlt | hge
        · rw [List.getElem?_append_left (by omega)] at hy
          exact hl2 i y hy
        · rw [List.getElem?_append_right (by omega), hl1] at hy
          obtain rfl : i = k := by
            have := (List.getElem?_eq_some_iff.1 hy).1
            simp at this
            omega
          simp at hy
          subst hy
          exact hz
    obtain ⟨l, rfl, hll⟩ := ex n (Nat.le_refl _)
    refine ⟨some x, c, l, rfl, fun i y hy => ?_, (fun e => by cases e), hl, by
      have : l.length + (c - l.length) = c := by omega
      rwa [this] at hs, by omega, fun y hy => ?_⟩
    · obtain ⟨h1, h2, _⟩ := hll i y hy
      have hy1 : 0 < y.length := by omega
      obtain ⟨z1, hv0⟩ : ∃ z1, y[0]? = some z1 := ⟨_, List.getElem?_eq_getElem hy1⟩
      have hc0 := h2 0 _ hv0
      obtain ⟨b, off, spot⟩ := x
      have hspot : spot = none ∨ i * fs.size + 0 ≠ 0 := by
        rcases Nat.eq_zero_or_pos (i * fs.size + 0) with h | h
        · left
          rw [h] at hc0
          simpa [Addr.add] using World.cell?_spot hc0
        · right; omega
      have hadd : ∀ q, q = i * fs.size ∨ q ≠ 0 → (⟨b, off, spot⟩ : Addr).add q = ⟨b, off + q, none⟩ := by
        intro q hq
        unfold Addr.add
        split
        · rename_i h0'
          rcases hspot with h | h
          · subst h; rw [h0']; rfl
          · omega
        · rfl
      have hbl := World.block_lt_of_cell? W _ hc0
      rw [blk_add] at hbl
      have hsp : spot = none := by
        rcases Nat.eq_zero_or_pos i with h | h
        · subst h
          rcases hspot with h | h
          · exact h
          · simp at h
        · have hl0 : 0 < l.length := by have := (List.getElem?_eq_some_iff.1 hy).1; omega
          obtain ⟨y0, hy0⟩ : ∃ y0, l[0]? = some y0 := ⟨_, List.getElem?_eq_getElem hl0⟩
          obtain ⟨g1, g2, _⟩ := hll 0 _ hy0
          have hz0 : 0 < y0.length := by omega
          obtain ⟨z0, hz⟩ : ∃ z0, y0[0]? = some z0 := ⟨_, List.getElem?_eq_getElem hz0⟩
          have := g2 0 _ hz
          simpa [Addr.add] using World.cell?_spot this
      subst hsp
      exact ⟨b, off, rfl, hbl, fun j v hj => by rw [← add_lit_]; exact h2 j v hj⟩
    · obtain ⟨i, hi, rfl⟩ := List.getElem_of_mem hy
      obtain ⟨h1, _, h3⟩ := hll i _ (List.getElem?_eq_getElem hi)
      exact ⟨h1, h3⟩
end structs
end Go.Proofs.YtdhccjmokmdboaaDoor
