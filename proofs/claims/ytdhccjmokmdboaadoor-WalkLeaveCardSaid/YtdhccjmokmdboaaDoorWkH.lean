/- The statements' own ownWords and set, by contract; WalkRound's plain part. -/
import Derived.Test.YtdhccjmokmdboaaDoorWkG
import Derived.Lib.SliceRun
namespace Go.Proofs.YtdhccjmokmdboaaDoor
open Go.RowKit
set_option linter.unusedVariables false
set_option linter.unusedSimpArgs false
theorem encU_one : ∀ x : Nat, (encU x).oneCell' = true := fun _ => rfl
set_option maxRecDepth 20000 in
set_option maxHeartbeats 2000000 in
theorem own13_any (A : Option Addr) (c : Nat) (ws : List Nat) (hz : ws.length * 8 ≤ 140737488355328) (w : World) (hr : Rd encU w A ws) :
    Calls Tryd.prog 8 #[.slice A ws.length c] w fun e w' => ∃ A' c', e = .returned (.slice A' ws.length c') ∧ ((A' = none ∧ ws = [] ∧ w' = w) ∨ Own encU 28 w' w.heap.size (.slice A' ws.length c') ws) ∧ Below w.heap.size w w' := by
  rcases A with _ | ad
  · have hn : ws = [] := by
      cases ws with
      | nil => rfl
      | cons x l => obtain ⟨_, h, _⟩ := hr 0 x rfl; cases h
    subst hn
    simp only [List.length_nil]
    have en := Lib.run_eql_slice_nil (P := Tryd.prog) w 22 28 none 0 c 0 0 Tryd.underlying22
    clear hr hz
    go_enter Tryd.func8, Tryd.ntmps8
    go_wp2
    go_ret
    exact ⟨none, 0, rfl, .inl ⟨rfl, trivial, rfl⟩, Below.refl _ _⟩
  · have HR := Lib.hid hr
    have HZ := Lib.hid hz
    obtain ⟨L, hL⟩ : ∃ L, L = ws.length := ⟨_, rfl⟩
    have HL := Lib.hid hL
    rw [← hL]
    have en := Lib.run_eql_slice_nil (P := Tryd.prog) w 22 28 (some ad) L c 0 0 Tryd.underlying22
    clear hr hz hL
    go_enter Tryd.func8, Tryd.ntmps8
    go_wp2_with (at_builtin; refine wpList_appendO _ wordTy encU_one rfl (.tmp 5) (.tmp 6) rfl w.heap.size _ [] ws rfl (Own.made encU 28 w (Nat.le_refl _)) (some ad) c (by rw [← HL.out]; rfl) (HR.out.alloc _) (by have := HZ.out; simp [maxLen]; omega) (by have := HZ.out; simp; omega) (by simp) ?_; intro v' w1 hown hg hloc)
    have hB := below_own ((Below.refl w.heap.size w).alloc (Nat.le_refl _) (.cells #[] 28)) (Own.made encU 28 w (Nat.le_refl _)) (Nat.le_refl _) hg (by simp)
    obtain ⟨A', c', rfl, _⟩ := hown.slice
    rw [List.nil_append] at hown
    go_ret
    exact ⟨A', c', by rw [HL.out]; rfl, .inr (by rw [HL.out]; exact hown), hB⟩
theorem own13_rd {w w' : World} {A : Option Addr} {ws : List Nat} {c : Nat} (h : (A = none ∧ ws = [] ∧ w' = w) ∨ Own encU 28 w' w.heap.size (.slice A ws.length c) ws) : Rd encU w' A ws := by
  rcases h with ⟨_, rfl, _⟩ | h
  · exact fun i x hx => by simp at hx
  · exact h.rd
theorem and_one (x : Nat) (hx : x < 18446744073709551616) : bits BinOp.and IntKind.u64 (x : Int) 1 = ((x % 2 : Nat) : Int) := by
  have h := u64_and_nat x 1 hx (by omega)
  rw [Nat.and_one_is_mod] at h
  exact h
set_option maxRecDepth 20000 in
set_option maxHeartbeats 2000000 in
theorem set13_any (A : Option Addr) (c : Nat) (ws : List Nat) (i : Nat) (hi : i < 64 * ws.length) (hib : i < 65536) (hb : ∀ x ∈ ws, x < 18446744073709551616) (w : World) (hr : Rd encU w A ws) :
    Calls Tryd.prog 10 #[.slice A ws.length c, .int .i64 (i : Int)] w fun e w' => e = .returned (.bool (bitW ws i)) ∧ w = w' := by
  obtain ⟨ad, q, hA, hq, hc⟩ := hr.at_ (k := i / 64) (by omega)
  subst hA
  have hqb := hb q (List.mem_of_getElem? hq)
  obtain ⟨L, hL⟩ : ∃ L, L = ws.length := ⟨_, rfl⟩
  rw [← hL]
  have hbit : bitW ws i = (q / 2 ^ (i % 64) % 2 == 1) := by
    unfold bitW
    rw [List.getD_eq_getElem?_getD, hq, Nat.testBit_eq_decide_div_mod_eq]
    rfl
  obtain ⟨y, hy⟩ : ∃ y, y = q / 2 ^ (i % 64) := ⟨_, rfl⟩
  have hcast : (q : Int) / 2 ^ (i % 64) = (y : Int) := by rw [hy, Int.natCast_ediv, Int.natCast_pow]; rfl
  have hyb : y < 18446744073709551616 := by rw [hy]; exact Nat.lt_of_le_of_lt (Nat.div_le_self _ _) hqb
  rw [← hy] at hbit
  have hand := and_one y hyb
  have hm : ((y : Int) % 2 == 1) = bitW ws i := by
    rw [hbit, show (y : Int) % 2 = ((y % 2 : Nat) : Int) by omega]
    rcases Nat.mod_two_eq_zero_or_one y with h | h <;> rw [h] <;> rfl
  obtain ⟨b, hbb⟩ : ∃ b, b = bitW ws i := ⟨_, rfl⟩
  rw [← hbb] at hm ⊢
  have hLi : (i : Int) / 64 < (L : Int) := by omega
  clear hL hr hb hbit hy hbb hq hqb hyb hi
  go_enter Tryd.func10, Tryd.ntmps10
  go_wp2
  go_ret
  exact ⟨rfl, rfl⟩
/-! ### the walk's order -/
/-- a follows b in a walk from s on -/
def Rs (s a b : Nat) : Prop := (a < s → b < s ∧ a < b) ∧ (s ≤ a → b < s ∨ a < b)
theorem setsL_pw (ws : List Nat) (n : Nat) : (setsL ws n).Pairwise (· < ·) := List.pairwise_lt_range.filter _
theorem walkL_pw (ws : List Nat) (n s : Nat) : (walkL ws n s).Pairwise (Rs s) := by
  unfold walkL
  rw [List.pairwise_append]
  refine ⟨((setsL_pw ws n).filter _).imp_of_mem fun {a b} ha hb h => ?_, ((setsL_pw ws n).filter _).imp_of_mem fun {a b} ha hb h => ?_, fun a ha b hb => ?_⟩
  · have := (List.mem_filter.1 ha).2
    simp at this
    exact ⟨fun h1 => by omega, fun _ => .inr h⟩
  · have := (List.mem_filter.1 hb).2
    simp at this
    exact ⟨fun h1 => ⟨this, h⟩, fun h1 => .inl this⟩
  · have h1 := (List.mem_filter.1 ha).2
    have h2 := (List.mem_filter.1 hb).2
    simp at h1 h2
    exact ⟨fun h => by omega, fun _ => .inl h2⟩
theorem mem_walkL {ws : List Nat} {n s b : Nat} : b ∈ walkL ws n s ↔ b < n ∧ bitW ws b = true := by
  unfold walkL
  rw [List.mem_append, List.mem_filter, List.mem_filter, mem_setsL]
  by_cases h : b < s <;> simp [h]
theorem filter_both {α : Type} (p : α → Bool) (l : List α) : (l.filter fun x => !p x).length + (l.filter p).length = l.length := by
  induction l with
  | nil => rfl
  | cons a l ih => simp only [List.filter_cons]; cases h : p a <;> simp [h] <;> omega
theorem walkL_len (ws : List Nat) (n s : Nat) : (walkL ws n s).length = (setsL ws n).length := by
  unfold walkL
  rw [List.length_append]
  exact filter_both (fun b => decide (b < s)) _
/-- where WalkRound stands: what is still to come, the last one and whether it has come round -/
def AtR (s : Nat) (rest : List Nat) (wr : Bool) (last : Int) : Prop := rest.Pairwise (Rs s) ∧ ∀ b ∈ rest, (wr = true → b < s ∧ last < (b : Int)) ∧ (wr = false → b < s ∨ last < (b : Int))
theorem AtR.start (ws : List Nat) (n s : Nat) : AtR s (walkL ws n s) false (-1) := ⟨walkL_pw ws n s, fun b _ => ⟨fun h => by (cases h), fun _ => .inr (by omega)⟩⟩
theorem AtR.step {s b : Nat} {rest : List Nat} {wr : Bool} {last : Int} (h : AtR s (b :: rest) wr last) : AtR s rest (wr || decide (b < s)) b := by
  obtain ⟨h1, h2⟩ := h
  rw [List.pairwise_cons] at h1
  refine ⟨h1.2, fun x hx => ?_⟩
  have hR := h1.1 x hx
  have hb := h2 b (List.mem_cons_self ..)
  constructor
  · intro hw
    have hbs : b < s := by
      cases wr with
      | true => exact (hb.1 rfl).1
      | false => simpa using hw
    have := hR.1 hbs
    exact ⟨this.1, by omega⟩
  · intro hw
    rw [Bool.or_eq_false_iff] at hw
    have h3 : s ≤ b := by simpa using hw.2
    rcases hR.2 h3 with h4 | h4
    · exact .inl h4
    · exact .inr (by omega)
end Go.Proofs.YtdhccjmokmdboaaDoor
