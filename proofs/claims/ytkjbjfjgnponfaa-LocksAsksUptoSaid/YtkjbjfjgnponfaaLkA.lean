/- Package locks: lists of places in memory; slices.Delete of one place. -/
import Derived.Test.YtkjbjfjgnponfaaChecked
import Derived.Test.YtkjbjfjgnponfaaHeap
import Derived.Test.YtkjbjfjgnponfaaArr
import Derived.Test.YtkjbjfjgnponfaaLkMu
import Derived.Deep.DeepCutAuto
import Derived.BigQuiet
import Derived.Lib.SliceRun
import Derived.Lib.Hide
import Derived.Deep.RegionHeld3
namespace Go.Proofs.Ytkjbjfjgnponfaa
open Go.RowKit
set_option linter.unusedSimpArgs false
abbrev Pl := Int × Int
def encP (p : Pl) : List Value := [.int .i64 p.1, .int .i64 p.2]
theorem encP_len (p : Pl) : (encP p).length = 2 := rfl
theorem encP_one (p : Pl) : ∀ v ∈ encP p, v.oneCell' = true := fun v hv => by
  simp only [encP, List.mem_cons, List.not_mem_nil, or_false] at hv
  rcases hv with rfl | rfl <;> rfl
theorem zeroP : ∀ W : World, (zeroValue 96).run Try.prog W = .ok (.agg #[.int .i64 0, .int .i64 0]) W := fun _ => by kernel_rfl
theorem pTy : SlTy Try.prog 91 96 2 16 := SlTy.mk' (z := .agg #[.int .i64 0, .int .i64 0]) Try.underlying91 (by kernel_rfl) rfl
section
variable {P : Program} {t e : TypeId} {sz bytes : Nat} {α : Type} {enc : α → List Value} {w : World}
/-- append into room that is there -/
theorem run_appendR (T : SlTy P t e sz bytes) (h0 : 0 < sz) (hsz : ∀ x, (enc x).length = sz) (h1 : ∀ x, ∀ v ∈ enc x, v.oneCell' = true) (ty : TypeId) {g o c : Nat} {l : List α} (h : GSl enc sz e w (some ⟨g, o, none⟩) c l)
    (b : Addr) (cB : Nat) {m : List α} (hm : RdS enc sz w (some b) m) (hroom : l.length + m.length ≤ c) :
    ∃ w', (Builtin.append_ #[t, t] ty #[.slice (some ⟨g, o, none⟩) l.length c, .slice (some b) m.length cB]).run P w = .ok (.slice (some ⟨g, o, none⟩) (l ++ m).length c) w' ∧ GSl enc sz e w' (some ⟨g, o, none⟩) c (l ++ m) ∧ Chg (slFp sz (some ⟨g, o, none⟩) l.length c) w w' := by
  obtain ⟨i, z, hi, hz, hs, hby, hzs⟩ := T.ex
  subst hs
  have hlen : (l ++ m).length = l.length + m.length := List.length_append
  have hfl := flat_len hsz l
  have hfm := flat_len hsz m
  have hone : ∀ u ∈ m.flatMap enc, u.oneCell' = true := fun u hu => by
    obtain ⟨x, _, hx⟩ := List.mem_flatMap.1 hu
    exact h1 x u hx
  rcases h with ⟨h, _⟩ | ⟨g', o', cs, he, k1, k2, k3, k4, k5⟩
  · cases h
  cases he
  have hfit : o + l.length * i.size + (m.flatMap enc).length ≤ cs.size := by
    have : (l.length + m.length) * i.size ≤ c * i.size := Nat.mul_le_mul_right _ hroom
    rw [Nat.add_mul] at this
    omega
  have hr := run_append_mid (P := P) t ty e i T.und hi g o l.length c cs k3 b m.length cB (m.flatMap enc) hfm (hm.flat hsz h0 rfl) hone hroom hfit
  obtain ⟨cs', r1, r2, r3, r4⟩ := setCells_row (m.flatMap enc) (o + l.length * i.size) w g cs e (0, 0) k3
  refine ⟨_, by rw [hlen]; exact hr, .inr ⟨g, o, cs', rfl, by rw [hlen]; exact hroom, k2, r1, by omega, fun k x hx j v hv => ?_⟩, setCells_chg _ _ _ _ _ fun k hk1 hk2 => ⟨o, rfl, hk1, ?_⟩⟩
  · have hj := (List.getElem?_eq_some_iff.1 hv).1
    rw [hsz] at hj
    rcases Nat.lt_or_ge k l.length with hk | hk
    · rw [List.getElem?_append_left hk] at hx
      rw [r3 _ (.inl (by
        have : (k + 1) * i.size ≤ l.length * i.size := Nat.mul_le_mul_right _ hk
        rw [Nat.add_mul] at this
        omega))]
      exact k5 k x hx j v hv
    · rw [List.getElem?_append_right hk] at hx
      have h2 := flat_at hsz hx j hj
      rw [hv] at h2
      have := r4 hfit _ _ h2
      rwa [show o + l.length * i.size + ((k - l.length) * i.size + j) = o + (k * i.size + j) from by
        rw [Nat.sub_mul]
        have : l.length * i.size ≤ k * i.size := Nat.mul_le_mul_right _ hk
        omega] at this
  · have : (l.length + m.length) * i.size ≤ c * i.size := Nat.mul_le_mul_right _ hroom
    rw [Nat.add_mul] at this
    omega
theorem step_appendR (T : SlTy P t e sz bytes) (h0 : 0 < sz) (hsz : ∀ x, (enc x).length = sz) (h1 : ∀ x, ∀ v ∈ enc x, v.oneCell' = true) {ops : Array Oper} {o : Oper} {a : Act} {K : Act → World → Prop} {Q : Exit → Act → World → Prop} {E : Prop} (hgd : o.guard = none) (s x : Operand)
    (ho : o.op = .call { callee := .builtin .append, args := #[s, x], argTypes := #[t, t] }) (g off c : Nat) (l : List α) (hs : a.eval s = .slice (some ⟨g, off, none⟩) l.length c) (h : GSl enc sz e w (some ⟨g, off, none⟩) c l)
    (b : Addr) (cB : Nat) (m : List α) (hx : a.eval x = .slice (some b) m.length cB) (hm : RdS enc sz w (some b) m) (hroom : l.length + m.length ≤ c)
    (hK : ∀ w', GSl enc sz e w' (some ⟨g, off, none⟩) c (l ++ m) → Chg (slFp sz (some ⟨g, off, none⟩) l.length c) w w' → K (a.put o.dst (.slice (some ⟨g, off, none⟩) (l ++ m).length c)) w') :
    if Region.wanted o (yielded ops a.tmps) = true then Oper.wp P o a w K Q else E := by
  rw [if_pos (by simp [Region.wanted, hgd])]
  obtain ⟨w', hrun, g1, g2⟩ := run_appendR (P := P) T h0 hsz h1 o.type h b cB hm hroom
  unfold Oper.wp execOp
  simp only [ho, resolve, invoke, builtin, Sem.run_bind, Sem.run_pure, Result.andThen_ok, List.map_toArray, List.map_cons, List.map_nil, hs, hx, hrun]
  exact hK w' g1 g2
theorem GSl.pre {A : Option Addr} {c : Nat} {l : List α} (h : GSl enc sz e w A c l) (k : Nat) : GSl enc sz e w A c (l.take k) := by
  rcases h with ⟨rfl, rfl, rfl⟩ | ⟨g, o, cs, rfl, k1, k2, k3, k4, k5⟩
  · exact .inl ⟨rfl, by simp, rfl⟩
  · refine .inr ⟨g, o, cs, rfl, by rw [List.length_take]; omega, k2, k3, k4, fun i x hx j v hv => k5 i x ?_ j v hv⟩
    rw [List.getElem?_take] at hx
    split at hx
    · exact hx
    · cases hx
end
/-- one place behind a list's end is cleared -/
theorem run_clear_one {w : World} {g c : Nat} {l : List Pl} (ty : TypeId) (h : GSl encP 2 96 w (some ⟨g, 0, none⟩) c l) (hl : l.length < c) (cc : Nat) :
    ∃ w', (Builtin.clear_ #[91] ty #[.slice (some ⟨g, l.length * 2, none⟩) 1 cc]).run Try.prog w = .ok (.tuple #[]) w' ∧ Chg (slFp 2 (some ⟨g, 0, none⟩) l.length c) w w' := by
  rcases h with ⟨h, _⟩ | ⟨g', o', cs, he, k1, k2, k3, k4, k5⟩
  · cases h
  cases he
  have hcell : ∀ j, j < 2 → (w.cell? ⟨g, l.length * 2 + j, none⟩).isSome = true := fun j hj => by
    rw [cell_of_row w g _ cs _ (0, 0) k3, Array.getElem?_eq_getElem (by omega)]
    rfl
  have hst := run_storeCells_cells (P := Try.prog) g (l.length * 2) [.int .i64 0, .int .i64 0] 0 w (by simpa using hcell) (by intro j hj; simp [World.frozen?, k3]) (by intro v hv; simp at hv; rw [hv]; rfl)
  simp only [Nat.add_zero] at hst
  have hz := zeroP
  refine ⟨w.setCells g (l.length * 2) [.int .i64 0, .int .i64 0], ?_, setCells_chg _ _ _ _ _ fun i h1 h2 => ⟨0, rfl, by omega, by simp at h2; omega⟩⟩
  have hzc : (Builtin.zeroCells (Value.agg #[.int .i64 0, .int .i64 0]).cells 1).toList = [.int .i64 0, .int .i64 0] := by kernel_rfl
  simp [Builtin.clear_, run_underlying Try.underlying91, hz, hzc, hst]
end Go.Proofs.Ytkjbjfjgnponfaa
