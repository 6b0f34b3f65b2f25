/- TlogExact: the row.  -/
import Derived.Test.YtagkhhoimgighaaRows
import Derived.Test.YtagkhhoimgighaaRow
import Derived.Test.YtagkhhoimgighaaBulk
import Derived.Deep.CondSized
import Derived.Test.YtagkhhoimgighaaTlEx
import Derived.WalkKit
import Derived.Lib.SmallJoins
namespace Go.Proofs.Ytagkhhoimgighaa.tlogExact
open Go.ChangeShapes Go.WideShapes Go.ChangeAt Go.RowKit
open Go.ChangeMaps (open_string shut_string)
set_option linter.unusedVariables false

theorem own : ownKnob Try.prog.godebug = none := by kernel_rfl
theorem laidOut : laidOutB Try.prog = true := by kernel_rfl

set_option maxRecDepth 100000 in
theorem lifted (os : Os) (started : os.Started) (H : Type) (enc : TypeId × Value → H) (F : Stop.Interp) :
    ReturnsInHanded {} Try.checked os 9 .any ((Rows.OpenSpec.upto Rows.tlogExactSpec).pre6 enc Try.prog Try.f9 Rows.tlogExactUptoRow.domain false) (((Rows.OpenSpec.upto Rows.tlogExactSpec).at F).post enc Try.prog Try.f9 false true false false) := by
  refine returnsInHanded_of_cond_sized (C := Try.checked) (s := Rows.OpenSpec.upto Rows.tlogExactSpec) (k := Rows.uptoSmall) rfl own started (by kernel_rfl) Try.func9
    (OpenSpec.witness (enc := enc) (C := Try.checked) (s := Rows.OpenSpec.upto Rows.tlogExactSpec) (k := Rows.uptoSmall) rfl false ⟨#[], #[.int .i64 0, .int .i64 0, .int .i64 0, .int .i64 0, .slice none 0 0], []⟩ 8 (by kernel_rfl) (by kernel_rfl) (by kernel_rfl)
      (x := ([.lit (.int .i64 0), .lit (.int .i64 0), .lit (.int .i64 0), .lit (.int .i64 0), .nil], [], [])) (by kernel_rfl) rfl (by kernel_rfl)) ?_
  intro W base args ds gs before hval0 hW hcnd hkb hsz _
  have hval : ∀ (j : Nat) t v, Try.f9.params[j]? = some t → args[j]? = some v → Value.okWide Try.prog W .any base t v := hval0
  have hW' := hW
  obtain ⟨p, q, hA0, hV, rfl, hfz, hnd⟩ := hW
  have hA : DataW.TrodAll enc Try.prog W 0 (fun _ => true) true Try.f9.params.toList args.toList ds p := hA0
  rw [Try.params9] at hA hval hsz
  obtain ⟨v0, vs0, d0, ds0, p0, q0, hargs, rfl, rfl, h0, r0_⟩ := trodAll_cons hA
  obtain ⟨v1, vs1, d1, ds1, p1, q1, rfl, rfl, rfl, h1, r1_⟩ := trodAll_cons r0_
  obtain ⟨v2, vs2, d2, ds2, p2, q2, rfl, rfl, rfl, h2, r2_⟩ := trodAll_cons r1_
  obtain ⟨v3, vs3, d3, ds3, p3, q3, rfl, rfl, rfl, h3, r3_⟩ := trodAll_cons r2_
  obtain ⟨v4, vs4, d4, ds4, p4, q4, rfl, rfl, rfl, h4, r4_⟩ := trodAll_cons r3_
  obtain ⟨rfl, rfl, rfl⟩ := trodAll_nil r4_
  obtain rfl : args = #[v0, v1, v2, v3, v4] := by cases args; simp_all
  obtain ⟨rfl, rfl⟩ := trodVars_none hV
  obtain ⟨a0, rfl, rfl, rfl, w0⟩ := open_int Try.underlying3 (hval 0 3 v0 rfl rfl) h0
  obtain ⟨a1, rfl, rfl, rfl, w1⟩ := open_int Try.underlying3 (hval 1 3 v1 rfl rfl) h1
  obtain ⟨a2, rfl, rfl, rfl, w2⟩ := open_int Try.underlying3 (hval 2 3 v2 rfl rfl) h2
  obtain ⟨a3, rfl, rfl, rfl, w3⟩ := open_int Try.underlying3 (hval 3 3 v3 rfl rfl) h3
  have k4 := h4
  have lt4 : ∀ x ∈ p4, x.block < W.heap.size := by obtain ⟨m, hm⟩ := k4; exact DataW.trod_lt m _ _ _ hm
  obtain ⟨A4, c4, L4, hv4, r4, z4, b4, m4, mm4, hl4⟩ := open_structs (B := 32) Try.underlying22 Try.underlying29 (by kernel_rfl) (by kernel_rfl) (by decide) (by kernel_rfl) hsz (j := 4) rfl rfl (hval 4 22 v4 rfl rfl) h4
  subst hv4
  obtain ⟨l4, hL4, wl4⟩ := map_ex (f := encO4) (p := fun y => (Lit.int .i64 y.1).wf = true ∧ (Lit.int .i64 y.2.1).wf = true ∧ (Lit.int .i64 y.2.2.1).wf = true ∧ (Lit.int .i64 y.2.2.2).wf = true) (l := L4) (fun x hx => by
    obtain ⟨hlen, hf⟩ := hl4 x hx
    obtain ⟨u0, n0, y0, hu0, ht0⟩ := hf 0 _ rfl
    obtain ⟨f0, he0, _, wf0⟩ := DataW.trod_int Try.underlying3 ht0
    simp only [List.cons.injEq, and_true] at he0
    subst he0
    obtain ⟨u1, n1, y1, hu1, ht1⟩ := hf 1 _ rfl
    obtain ⟨f1, he1, _, wf1⟩ := DataW.trod_int Try.underlying3 ht1
    simp only [List.cons.injEq, and_true] at he1
    subst he1
    obtain ⟨u2, n2, y2, hu2, ht2⟩ := hf 2 _ rfl
    obtain ⟨f2, he2, _, wf2⟩ := DataW.trod_int Try.underlying3 ht2
    simp only [List.cons.injEq, and_true] at he2
    subst he2
    obtain ⟨u3, n3, y3, hu3, ht3⟩ := hf 3 _ rfl
    obtain ⟨f3, he3, _, wf3⟩ := DataW.trod_int Try.underlying3 ht3
    simp only [List.cons.injEq, and_true] at he3
    subst he3
    match x, hlen with
    | [x0_, x1_, x2_, x3_], _ =>
      simp only [List.getElem?_cons_zero, List.getElem?_cons_succ, Option.some.injEq] at hu0 hu1 hu2 hu3
      subst hu0 hu1 hu2 hu3
      exact ⟨(f0, f1, f2, f3), rfl, ⟨wf0, wf1, wf2, wf3⟩⟩)
  subst hL4
  have r4' : RdS encO4 4 W A4 l4 := fun i x hx => by
    obtain ⟨b, o, e, hb, hc⟩ := r4 i _ (by rw [List.getElem?_map, hx]; rfl)
    exact ⟨b, o, e, hb, hc⟩
  clear hA0 hval0
  simp only [List.length_map] at z4 b4 k4 hW' ⊢
  have hkb' := bulk_all hkb
  simp only [List.append_nil, Rows.uptoBulkAll] at hkb'
  have bk4 := bulk_slice Try.underlying22 k4
  refine (exact_law a0 a1 a2 a3 A4 c4 l4 W w0 w1 w2 w3 (by omega) r4' (fun x hx => (wl4 x hx).2.2.1)).mono fun e W' ⟨he, bel⟩ => ?_
  subst he
  exact ⟨_, rfl, _, _, _, [], _, [], hW', trodAll_mk1 (shut_bool Try.underlying4 _), (trodAll_cons_mk (shut_int Try.underlying3 w0) (trodAll_cons_mk (shut_int Try.underlying3 w1) (trodAll_cons_mk (shut_int Try.underlying3 w2) (trodAll_cons_mk (shut_int Try.underlying3 w3) (trodAll_cons_mk (Below.trod laidOut (by kernel_rfl) (of_decide_eq_true (by kernel_rfl)) k4 bel lt4) trodAll_mk0))))), rfl, bel.frame _, fun h => by cases h⟩

theorem over : Rows.tlogExactUptoRow.holds Try.pinned (Rows.OpenSpec.upto Rows.tlogExactSpec) :=
  OpenClaim.holds_of_cond 9 Try.f9 rfl rfl rfl rfl rfl rfl rfl ⟨rfl, rfl, rfl, rfl, rfl⟩ rfl rfl rfl rfl rfl (by kernel_rfl) Try.func9 (by kernel_rfl)
    (of_decide_eq_true (by kernel_rfl)) (by unfold Func.isWrapper; first | (rw [if_pos (by decide +kernel)]; kernel_rfl) | (rw [if_neg (by decide +kernel)]; exact ⟨rfl, rfl⟩))
    (fun os started H enc _ F => lifted os started H enc F)

/-- the statement, under the bound -/
theorem proved : Rows.TlogExactUptoSaid := over
#print axioms proved
end Go.Proofs.Ytagkhhoimgighaa.tlogExact
