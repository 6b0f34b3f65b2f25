/- A list of words that came in. -/
import Derived.Test.YtdhccjmokmdboaaDoorRow
import Derived.Test.YtdhccjmokmdboaaDoorWkB
namespace Go.Proofs.YtdhccjmokmdboaaDoor
open Go.ChangeShapes Go.WideShapes Go.ChangeAt Go.RowKit
/-- with the form's own reach -/
theorem open_u64z0 {H : Type} {enc : TypeId × Value → H} {P : Program} {W : World} {r : Reach} {base b0 t e j : Nat} {held : Bool} {ts : List TypeId} {ds : List (DataW H)} {v : Value} {d : DataW H} {p : List MemPlace}
    (ht : P.underlying t = some (.slice e)) (he : P.underlying e = some (.int .u64)) (hc : P.cellsOf e = 1) (hb : P.bytesOf e = 8)
    (hsz : (DataW.weightsEach P ts ds).all (· ≤ reachBytes) = true) (htj : ts[j]? = some t) (hdj : ds[j]? = some d)
    (hv : Value.okWide P W r base t v) (h : DataW.Trod enc P W b0 (fun _ => true) held t v d p) :
    ∃ (A : Option Addr) (c : Nat) (l : List Int), v = .slice A l.length c ∧ (∀ (i : Nat) (x : Int), l[i]? = some x → ∃ ad, A = some ad ∧ W.cell? (ad.add i) = some (.int .u64 x)) ∧ l.length ≤ c ∧ c * 8 ≤ 140737488355328 ∧ ∀ x ∈ l, (Lit.int .u64 x).wf = true := by
  obtain ⟨a, n, c, rfl⟩ := okWide_slice ht hv
  obtain ⟨fuel, hf⟩ := h
  rcases open_ints ht he hc hf with ⟨hcs, _⟩ | ⟨x, n', c', zs, hcs, _, hl, hm, hz, hx, hcell, hwz⟩
  · simp [Value.cells] at hcs
    obtain ⟨rfl, rfl, rfl⟩ := hcs
    exact ⟨none, 0, [], rfl, fun i x h => by simp at h, Nat.le_refl _, by omega, fun x hx => by cases hx⟩
  · simp [Value.cells] at hcs
    obtain ⟨rfl, rfl, rfl⟩ := hcs
    simp only [Prod.mk.injEq] at hx
    obtain ⟨rfl, rfl⟩ := hx
    simp only [if_true] at hz
    have hs := sized_slice hsz htj hdj ht
    rw [hb] at hs
    simp only [lits, List.length_map, List.length_take, List.length_drop, reachBytes] at hs
    have hll : (zs.take n).length = n := by rw [List.length_take]; omega
    refine ⟨some x, c, zs.take n, by rw [hll], fun i b hi => ⟨x, rfl, ?_⟩, by omega, by omega, fun y hy => hwz y (List.mem_of_mem_take hy)⟩
    rw [List.getElem?_take] at hi
    split at hi
    · have hlt := (List.getElem?_eq_some_iff.1 hi).1
      rw [hcell i hlt, List.getD_eq_getElem?_getD, hi]
      rfl
    · cases hi
theorem wf_u64s {n : Int} (h : (Lit.int .u64 n).wf = true) : 0 ≤ n ∧ n < 18446744073709551616 := by
  simp [Lit.wf] at h
  have e1 : IntKind.u64.min = 0 := rfl
  have e2 : IntKind.u64.max = 18446744073709551615 := rfl
  omega
theorem open_u64z {H : Type} {enc : TypeId × Value → H} {P : Program} {W : World} {r : Reach} {base b0 t e j : Nat} {held : Bool} {ts : List TypeId} {ds : List (DataW H)} {v : Value} {d : DataW H} {p : List MemPlace}
    (ht : P.underlying t = some (.slice e)) (he : P.underlying e = some (.int .u64)) (hc : P.cellsOf e = 1) (hb : P.bytesOf e = 8)
    (hsz : (DataW.weightsEach P ts ds).all (· ≤ reachBytes) = true) (htj : ts[j]? = some t) (hdj : ds[j]? = some d)
    (hv : Value.okWide P W r base t v) (h : DataW.Trod enc P W b0 (fun _ => true) held t v d p) :
    ∃ (A : Option Addr) (c : Nat) (l : List Nat), v = .slice A l.length c ∧ Rd encU W A l ∧ l.length ≤ c ∧ c * 8 ≤ 140737488355328 ∧ ∀ x ∈ l, x < 18446744073709551616 := by
  obtain ⟨A, c, l, rfl, hr, h1, h2, h3⟩ := open_u64z0 ht he hc hb hsz htj hdj hv h
  refine ⟨A, c, l.map Int.toNat, by rw [List.length_map], fun i x hx => ?_, by rw [List.length_map]; exact h1, h2, fun x hx => ?_⟩
  · rw [List.getElem?_map] at hx
    obtain ⟨y, hy, rfl⟩ := Option.map_eq_some_iff.1 hx
    obtain ⟨ad, e1, e2⟩ := hr i y hy
    have := wf_u64s (h3 y (List.mem_of_getElem? hy))
    refine ⟨ad, e1, ?_⟩
    rw [e2]
    unfold encU
    rw [Int.toNat_of_nonneg this.1]
  · obtain ⟨y, hy, rfl⟩ := List.mem_map.1 hx
    have := wf_u64s (h3 y hy)
    omega
end Go.Proofs.YtdhccjmokmdboaaDoor
