/- A list of steps that came in (two ints and a list of bytes each). -/
import Derived.Test.YtepikbmlhejobaaDoorBulk
import Derived.Test.YtepikbmlhejobaaDoorStrS
namespace Go.Proofs.YtepikbmlhejobaaDoor
open Go.ChangeShapes Go.WideShapes Go.ChangeAt Go.RowKit Go.Deep
section
variable {H : Type} {enc : TypeId × Value → H} {W : World} {b0 : Nat} {held : Bool}
theorem open_step_bytes {u : Value} {y : DataW H × List MemPlace} {q : Nat} (h : DataW.trod enc Tryd.prog W b0 (fun _ => true) held q 27 [u] = some y) :
    ∃ (A : Option Addr) (n c : Nat) (p : List UInt8), u = .slice A n c ∧ p.length = n ∧ Rd encB W A p ∧ (A = none → n = 0 ∧ c = 0) := by
  rcases open_ints Tryd.underlying27 Tryd.underlying5 (by kernel_rfl) h with ⟨hcs, _⟩ | ⟨x, n', c', zs, hcs, _, hl, hm, hz, hx, hcell, hwz⟩
  · simp at hcs
    subst hcs
    exact ⟨none, 0, 0, [], rfl, rfl, Rd.nil_, fun _ => ⟨rfl, rfl⟩⟩
  · simp at hcs
    subst hcs
    simp only [if_true] at hz
    obtain ⟨l, rfl⟩ := vBs_ex zs hwz
    have hll : (l.take n').length = n' := by rw [List.length_map] at hz; rw [List.length_take]; omega
    refine ⟨some x, n', c', l.take n', rfl, hll, fun i b hi => ⟨x, rfl, ?_⟩, fun e => by cases e⟩
    rw [List.getElem?_take] at hi
    split at hi
    · have hlt := (List.getElem?_eq_some_iff.1 hi).1
      rw [hcell i (by simpa using hlt), List.getD_eq_getElem?_getD, List.getElem?_map, hi]
      rfl
    · cases hi
theorem sumB_le : ∀ (n : Nat) (steps : List Stp) (D : Nat → DataW H), steps.length = n → (∀ i s, steps[i]? = some s → s.n ≤ Rows.uptoBulk (D i)) → sumB steps ≤ Rows.uptoBulkAll ((List.range n).map D)
  | 0, steps, D, hl, _ => by rw [List.eq_nil_of_length_eq_zero hl]; exact Nat.zero_le _
  | n + 1, [], D, hl, _ => by cases hl
  | n + 1, s :: l, D, hl, h => by
    rw [List.range_succ_eq_map, List.map_cons, List.map_map]
    have h0 := h 0 s rfl
    have h1 := sumB_le n l (D ∘ Nat.succ) (by simpa using hl) (fun i s' hs => h (i + 1) s' (by simpa using hs))
    show s.n + sumB l ≤ Rows.uptoBulk (D 0) + Rows.uptoBulkAll ((List.range n).map (D ∘ Nat.succ))
    omega
theorem bulk_steps {a : Option Addr} {n c : Nat} {d : DataW H} {p : List MemPlace} {steps : List Stp} (h : DataW.Trod enc Tryd.prog W b0 (fun _ => true) held 22 (.slice a n c) d p) (hl : steps.length = n) (hr : RdS encS 3 W a steps) : sumB steps ≤ Rows.uptoBulk d := by
  obtain ⟨fuel, hf⟩ := h
  rcases open_slice_fields Tryd.underlying22 Tryd.underlying29 (by kernel_rfl) (by kernel_rfl) hf with ⟨hcs, _⟩ | ⟨x, n', c', m, D, Pl, hcs, _, hle, hm, hmm, hx, hi⟩
  · simp [Value.cells] at hcs
    obtain ⟨_, rfl, _⟩ := hcs
    rw [List.eq_nil_of_length_eq_zero hl]
    exact Nat.zero_le _
  · simp [Value.cells] at hcs
    obtain ⟨rfl, rfl, rfl⟩ := hcs
    simp only [Prod.mk.injEq] at hx
    obtain ⟨rfl, rfl⟩ := hx
    simp only [if_true] at hmm
    have key : ∀ i s, steps[i]? = some s → s.n ≤ Rows.uptoBulk (D i) := fun i s hs => by
      have hin : i < n := by rw [← hl]; exact (List.getElem?_eq_some_iff.1 hs).1
      obtain ⟨ys, q, hD, _, _, hg⟩ := hi i (by omega)
      obtain ⟨v, y, hc, hy, ht⟩ := hg 2 _ rfl
      obtain ⟨b, o, e, _, hcell⟩ := hr i s hs
      have h2 := hcell 2 _ rfl
      cases e
      have hv : v = .slice s.A s.n s.c := Option.some.inj (hc.symm.trans h2)
      subst hv
      have hb := bulk_slice Tryd.underlying27 (⟨q, ht⟩ : DataW.Trod enc Tryd.prog W b0 (fun _ => true) held 27 (.slice s.A s.n s.c) y.1 y.2)
      have hmem : y.1 ∈ ys.map (·.1) := List.mem_map.2 ⟨y, List.mem_of_getElem? hy, rfl⟩
      have h3 := bulk_mem hmem
      rw [hD]
      show s.n ≤ Rows.uptoBulkAll (ys.map (·.1)) + 1
      omega
    have h1 := sumB_le n steps D hl key
    show sumB steps ≤ Rows.uptoBulkAll ((List.range n).map D) + Rows.uptoBulkAll _ + 1
    omega
end
theorem open_steps {H : Type} {enc : TypeId × Value → H} {W : World} {r : Reach} {base b0 j : Nat} {held : Bool} {ts : List TypeId} {ds : List (DataW H)} {v : Value} {d : DataW H} {p : List MemPlace}
    (hsz : (DataW.weightsEach Tryd.prog ts ds).all (· ≤ reachBytes) = true) (htj : ts[j]? = some 22) (hdj : ds[j]? = some d)
    (hv : Value.okWide Tryd.prog W r base 22 v) (h : DataW.Trod enc Tryd.prog W b0 (fun _ => true) held 22 v d p) :
    ∃ (A : Option Addr) (c : Nat) (steps : List Stp), v = .slice A steps.length c ∧ RdS encS 3 W A steps ∧ (∀ s ∈ steps, s.p.length = s.n ∧ Rd encB W s.A s.p ∧ (s.A = none → s.n = 0 ∧ s.c = 0)) ∧ sumB steps ≤ Rows.uptoBulk d ∧ steps.length ≤ Rows.uptoBulk d := by
  have k0 := h
  obtain ⟨A, c, L, hvv, rr, _, _, _, _, hl⟩ := open_structs (B := 40) Tryd.underlying22 Tryd.underlying29 (by kernel_rfl) (by kernel_rfl) (by decide) (by kernel_rfl) hsz htj hdj hv h
  subst hvv
  obtain ⟨steps, hL, good⟩ := map_ex (f := encS) (p := fun s => s.p.length = s.n ∧ Rd encB W s.A s.p ∧ (s.A = none → s.n = 0 ∧ s.c = 0)) (l := L) (fun x hx => by
    obtain ⟨hlen, hf⟩ := hl x hx
    obtain ⟨u0, n0, y0, hu0, ht0⟩ := hf 0 _ rfl
    obtain ⟨f0, he0, _, _⟩ := DataW.trod_int Tryd.underlying3 ht0
    obtain ⟨u1, n1, y1, hu1, ht1⟩ := hf 1 _ rfl
    obtain ⟨f1, he1, _, _⟩ := DataW.trod_int Tryd.underlying3 ht1
    obtain ⟨u2, n2, y2, hu2, ht2⟩ := hf 2 _ rfl
    obtain ⟨PA, pn, pc, pp, e2, hp1, hp2, hp3⟩ := open_step_bytes ht2
    simp only [List.cons.injEq, and_true] at he0 he1
    subst he0
    subst he1
    subst e2
    match x, hlen with
    | [x0_, x1_, x2_], _ =>
      simp only [List.getElem?_cons_zero, List.getElem?_cons_succ, Option.some.injEq] at hu0 hu1 hu2
      subst hu0 hu1 hu2
      exact ⟨⟨f0, f1, PA, pn, pc, pp⟩, rfl, hp1, hp2, hp3⟩)
  subst hL
  have r' : RdS encS 3 W A steps := fun i x hx => by
    obtain ⟨b, o, e, hb, hc⟩ := rr i _ (by rw [List.getElem?_map, hx]; rfl)
    exact ⟨b, o, e, hb, hc⟩
  rw [List.length_map] at k0 ⊢
  exact ⟨A, c, steps, rfl, r', good, bulk_steps k0 rfl r', bulk_slice Tryd.underlying22 k0⟩
end Go.Proofs.YtepikbmlhejobaaDoor
