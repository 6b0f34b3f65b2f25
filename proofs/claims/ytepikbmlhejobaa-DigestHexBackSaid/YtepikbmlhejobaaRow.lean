/- What a row's proof opens: a list of bytes that came in, with the form's own reach. Nothing here is about the program's functions. -/
import Derived.Test.YtepikbmlhejobaaMem
import Derived.ProofKit
import Derived.OpenShut
import Derived.ShutString
import Derived.ChangeOld
import Derived.SizedLaws
namespace Go.Proofs.Ytepikbmlhejobaa
open Go.ChangeShapes Go.WideShapes Go.ChangeAt Go.RowKit

theorem vBs_ex : ∀ zs : List Int, (∀ n ∈ zs, (Lit.int .u8 n).wf = true) → ∃ l : List UInt8, zs = l.map vB
  | [], _ => ⟨[], rfl⟩
  | z :: zs, h => by
    obtain ⟨b, rfl⟩ := vB_ex (h z (List.mem_cons_self ..))
    obtain ⟨l, rfl⟩ := vBs_ex zs (fun n hn => h n (List.mem_cons_of_mem _ hn))
    exact ⟨b :: l, rfl⟩

/-- a list of bytes that came in -/
theorem open_bytes {H : Type} {enc : TypeId × Value → H} {P : Program} {W : World} {r : Reach} {base b0 t e j : Nat} {held : Bool} {ts : List TypeId} {ds : List (DataW H)} {v : Value} {d : DataW H} {p : List MemPlace}
    (ht : P.underlying t = some (.slice e)) (he : P.underlying e = some (.int .u8)) (hc : P.cellsOf e = 1) (hb : P.bytesOf e = 1)
    (hsz : (DataW.weightsEach P ts ds).all (· ≤ reachBytes) = true) (htj : ts[j]? = some t) (hdj : ds[j]? = some d)
    (hv : Value.okWide P W r base t v) (h : DataW.Trod enc P W b0 (fun _ => true) held t v d p) :
    ∃ (A : Option Addr) (c : Nat) (l : List UInt8), v = .slice A l.length c ∧ Rd encB W A l ∧ (A = none → l.length = 0 ∧ c = 0) ∧ l.length ≤ c ∧ c ≤ 140737488351232 := by
  obtain ⟨a, n, c, rfl⟩ := okWide_slice ht hv
  obtain ⟨fuel, hf⟩ := h
  rcases open_ints ht he hc hf with ⟨hcs, _⟩ | ⟨x, n', c', zs, hcs, _, hl, hm, hz, hx, hcell, hwz⟩
  · simp [Value.cells] at hcs
    obtain ⟨rfl, rfl, rfl⟩ := hcs
    exact ⟨none, 0, [], rfl, Rd.nil_, fun _ => ⟨rfl, rfl⟩, Nat.le_refl _, by omega⟩
  · simp [Value.cells] at hcs
    obtain ⟨rfl, rfl, rfl⟩ := hcs
    simp only [Prod.mk.injEq] at hx
    obtain ⟨rfl, rfl⟩ := hx
    simp only [if_true] at hz
    have hs := sized_slice hsz htj hdj ht
    rw [hb] at hs
    simp only [lits, List.length_map, List.length_take, List.length_drop, reachBytes] at hs
    obtain ⟨l, rfl⟩ := vBs_ex zs hwz
    have hll : (l.take n).length = n := by rw [List.length_map] at hz; rw [List.length_take]; omega
    refine ⟨some x, c, l.take n, by rw [hll], fun i b hi => ⟨x, rfl, ?_⟩, (fun e => by cases e), by omega, by omega⟩
    rw [List.getElem?_take] at hi
    split at hi
    · have hlt := (List.getElem?_eq_some_iff.1 hi).1
      rw [hcell i (by simpa using hlt), List.getD_eq_getElem?_getD, List.getElem?_map, hi]
      rfl
    · cases hi
end Go.Proofs.Ytepikbmlhejobaa
