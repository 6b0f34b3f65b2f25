/- What a row's proof opens: an array of bytes that came in by value. Nothing here is about the program's functions. -/
import Derived.Test.YtepikbmlhejobaaRow
import Derived.Test.YtepikbmlhejobaaArr
namespace Go.Proofs.Ytepikbmlhejobaa
open Go.ChangeShapes Go.WideShapes Go.ChangeAt Go.RowKit

theorem open_arrB {H : Type} {enc : TypeId × Value → H} {P : Program} {W : World} {r : Reach} {base b0 t e n : Nat} {held : Bool} {v : Value} {d : DataW H} {p : List MemPlace}
    (ht : P.underlying t = some (.array n e)) (he : P.underlying e = some (.int .u8)) (hc : P.cellsOf e = 1) (hct : P.cellsOf t = n)
    (hv : Value.okWide P W r base t v) (h : DataW.Trod enc P W b0 (fun _ => true) held t v d p) : ∃ l : List UInt8, v = .agg (arr encB l) ∧ l.length = n := by
  obtain ⟨cs, rfl, hsz⟩ : ∃ cs, v = .agg cs ∧ cs.size = P.cellsOf t := by
    simp only [Value.okWide, ht] at hv
    obtain ⟨cs, h1, h2, _⟩ := hv
    exact ⟨cs, h1, h2⟩
  obtain ⟨fuel, hf⟩ := h
  obtain ⟨xs, m, _, _, hl, hx, hi⟩ := DataW.trod_array ht hf
  have hcs : cs.toList.length = n := by simp [hsz, hct]
  obtain ⟨l, hl2, _⟩ := map_ex (f := fun b : UInt8 => encB b) (p := fun _ => True) (l := cs.toList) (fun x hx' => by
    obtain ⟨i, hi', rfl⟩ := List.getElem_of_mem hx'
    have h1 := hi i (by omega)
    change DataW.trod enc P W b0 (fun _ => true) held m e (List.take (P.cellsOf e) (List.drop (i * P.cellsOf e) cs.toList)) = xs[i]? at h1
    rw [hc, Nat.mul_one, List.drop_eq_getElem_cons hi', List.take_succ_cons, List.take_zero] at h1
    obtain ⟨y, hy⟩ : ∃ y, xs[i]? = some y := ⟨_, List.getElem?_eq_getElem (by omega)⟩
    rw [hy] at h1
    obtain ⟨a, e1, _, wf⟩ := DataW.trod_int he h1
    simp only [List.cons.injEq, and_true] at e1
    obtain ⟨b, rfl⟩ := vB_ex wf
    exact ⟨b, e1, trivial⟩)
  refine ⟨l, ?_, by rw [← hcs, hl2, List.length_map]⟩
  congr 1
  apply Array.toList_inj.1
  rw [hl2, arr_list]
end Go.Proofs.Ytepikbmlhejobaa
