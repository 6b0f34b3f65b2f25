/- ActlogLru: the row.  -/
import Derived.Test.YtiidheknlacioaaRows
import Derived.Test.YtiidheknlacioaaRow
import Derived.Test.YtiidheknlacioaaLxE
import Derived.WalkKit
import Derived.Lib.SmallJoins
namespace Go.Proofs.Ytiidheknlacioaa.actlogLru
open Go.ChangeShapes Go.WideShapes Go.ChangeAt Go.RowKit
open Go.ChangeMaps (open_string shut_string)
set_option linter.unusedVariables false

theorem own : ownKnob Try.prog.godebug = none := by kernel_rfl
theorem laidOut : laidOutB Try.prog = true := by kernel_rfl

set_option maxRecDepth 100000 in
theorem lifted (os : Os) (started : os.Started) (H : Type) (enc : TypeId × Value → H) :
    ReturnsInHanded {} Try.checked os 4 .any (Rows.actlogLruSpec.pre6 enc Try.prog Try.f4 Rows.actlogLruRow.domain false) (Rows.actlogLruSpec.post enc Try.prog Try.f4 false true false false) := by
  refine returnsInHanded_of_change_sized (C := Try.checked) own started (by kernel_rfl) Try.func4
    (ChangeSpec.witness6 (enc := enc) (C := Try.checked) false ⟨#[], #[.int .i64 0, .slice none 0 0], []⟩ 8 (by kernel_rfl) (by kernel_rfl) (by kernel_rfl) (by kernel_rfl)) ?_
  intro W base args ds gs before hval0 hW hcnd hsz _
  have hval : ∀ (j : Nat) t v, Try.f4.params[j]? = some t → args[j]? = some v → Value.okWide Try.prog W .any base t v := hval0
  have hW' := hW
  obtain ⟨p, q, hA0, hV, rfl, hfz, hnd⟩ := hW
  have hA : DataW.TrodAll enc Try.prog W 0 (fun _ => true) true Try.f4.params.toList args.toList ds p := hA0
  rw [Try.params4] at hA hval hsz
  obtain ⟨v0, vs0, d0, ds0, p0, q0, hargs, rfl, rfl, h0, r0_⟩ := trodAll_cons hA
  obtain ⟨v1, vs1, d1, ds1, p1, q1, rfl, rfl, rfl, h1, r1_⟩ := trodAll_cons r0_
  obtain ⟨rfl, rfl, rfl⟩ := trodAll_nil r1_
  obtain rfl : args = #[v0, v1] := by cases args; simp_all
  obtain ⟨rfl, rfl⟩ := trodVars_none hV
  obtain ⟨a0, rfl, rfl, rfl, w0⟩ := open_int Try.underlying3 (hval 0 3 v0 rfl rfl) h0
  have k1 := h1
  have lt1 : ∀ x ∈ p1, x.block < W.heap.size := by obtain ⟨m, hm⟩ := k1; exact DataW.trod_lt m _ _ _ hm
  obtain ⟨A1, c1, L1, hv1, r1, z1, b1, m1, mm1, hl1⟩ := open_structs (B := 24) Try.underlying40 Try.underlying49 (by kernel_rfl) (by kernel_rfl) (by decide) (by kernel_rfl) hsz (j := 1) rfl rfl (hval 1 40 v1 rfl rfl) h1
  subst hv1
  obtain ⟨l1, hL1, wl1⟩ := map_ex (f := encA3) (p := fun y => (Lit.int .i64 y.1).wf = true ∧ (Lit.int .i64 y.2.1).wf = true ∧ (Lit.int .i64 y.2.2).wf = true) (l := L1) (fun x hx => by
    obtain ⟨hlen, hf⟩ := hl1 x hx
    obtain ⟨u0, n0, y0, hu0, ht0⟩ := hf 0 _ rfl
    obtain ⟨f0, he0, _, wf0⟩ := DataW.trod_int Try.underlying3 ht0
    simp only [List.cons.injEq, and_true] at he0
    subst he0
    obtain ⟨u1, n1, y1, hu1, ht1⟩ := hf 1 _ rfl
    obtain ⟨f1, he1, _, wf1⟩ := DataW.trod_int Try.underlying3 ht1
    simp only [List.cons.injEq, and_true] at he1
    subst he1
    obtain ⟨u2, n2, y2, hu2, ht2⟩ := hf 2 _ rfl
    obtain ⟨f2, he2, _, wf2⟩ := DataW.trod_int Try.underlying3 ht2
    simp only [List.cons.injEq, and_true] at he2
    subst he2
    match x, hlen with
    | [x0_, x1_, x2_], _ =>
      simp only [List.getElem?_cons_zero, List.getElem?_cons_succ, Option.some.injEq] at hu0 hu1 hu2
      subst hu0 hu1 hu2
      exact ⟨(f0, f1, f2), rfl, ⟨wf0, wf1, wf2⟩⟩)
  subst hL1
  have r1' : RdS encA3 3 W A1 l1 := fun i x hx => by
    obtain ⟨b, o, e, hb, hc⟩ := r1 i _ (by rw [List.getElem?_map, hx]; rfl)
    exact ⟨b, o, e, hb, hc⟩
  clear hA0 hval0
  simp only [List.length_map] at z1 b1 k1 hW' ⊢
  refine (lru_law a0 A1 c1 l1 W w0 (by omega) r1' (fun x hx => (wl1 x hx).2.2)).mono fun e W' ⟨he, bel⟩ => ?_
  subst he
  exact ⟨_, rfl, _, _, _, [], _, [], hW', trodAll_mk1 (shut_bool Try.underlying4 _), (trodAll_cons_mk (shut_int Try.underlying3 w0) (trodAll_cons_mk (Below.trod laidOut (by kernel_rfl) (of_decide_eq_true (by kernel_rfl)) k1 bel lt1) trodAll_mk0)), rfl, bel.frame _, fun h => by cases h⟩

theorem over : Rows.actlogLruRow.holds Try.pinned (OpenSpec.ofChange Rows.actlogLruSpec) :=
  OpenClaim.holds_of_wide 4 Try.f4 rfl rfl rfl rfl rfl rfl rfl ⟨rfl, rfl, rfl, rfl, rfl⟩ rfl rfl rfl rfl rfl (by kernel_rfl) Try.func4 (by kernel_rfl)
    (of_decide_eq_true (by kernel_rfl)) (by unfold Func.isWrapper; first | (rw [if_pos (by decide +kernel)]; kernel_rfl) | (rw [if_neg (by decide +kernel)]; exact ⟨rfl, rfl⟩))
    (fun os started H enc _ => lifted os started H enc)

/-- the statement -/
theorem proved : Rows.ActlogLruSaid := over
#print axioms proved
end Go.Proofs.Ytiidheknlacioaa.actlogLru
