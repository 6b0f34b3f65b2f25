/- ActlogLru: the law. -/
import Derived.Test.YtiidheknlacioaaLxD
namespace Go.Proofs.Ytiidheknlacioaa
open Go.RowKit
set_option linter.unusedVariables false
set_option linter.unusedSimpArgs false
abbrev encA3 (o : Int × Int × Int) : List Value := [.int .i64 o.1, .int .i64 o.2.1, .int .i64 o.2.2]
section
variable {base G H N : Nat} {w0 wr w' : World} {s : LruS} {r : RLru} {F FR : Nat → Nat → Prop}
theorem texts_any (h : LX base G H w0 wr N s r F FR) (kd of_ key i : Int) (hk : (Lit.int .i64 key).wf = true) (hiw : (Lit.int .i64 i).wf = true) (hN : N < 4611686018427387904) :
    Calls Try.prog 24 #[.pointer (some ⟨G, 0, none⟩), .pointer (some ⟨H, 0, none⟩), .agg #[.int .i64 kd, .int .i64 of_, .int .i64 key], .int .i64 i] wr (TxP base G H w0 N FR) := by
  by_cases h0 : kd = 0
  · subst h0; exact texts_get h of_ key i hk hN
  by_cases h1 : kd = 1
  · subst h1; exact texts_put h of_ key i hk hN
  by_cases h2 : kd = 2
  · subst h2; exact texts_refs h of_ key i hk
  by_cases h3 : kd = 3
  · subst h3; exact texts_slot h of_ key i hk
  by_cases h4 : kd = 4
  · subst h4; exact texts_keys h of_ key i hk hiw hN
  exact texts_other h kd of_ key i hk h0 h1 h2 h3 h4
end
section
variable {A0 : Option Addr} {c0 : Nat} {l : List (Int × Int × Int)} {w : World}
set_option maxRecDepth 20000 in
theorem lru_no (slots : Int) (h : slots < 1 ∨ 16 < slots) : Calls Try.prog 4 #[.int .i64 slots, .slice A0 l.length c0] w fun e w' => e = .returned (.bool true) ∧ Below w.heap.size w w' := by
  have H1 := Lib.hid (fun w => KS.new_no slots h w)
  have H2 := Lib.hid (fun w => rnew_no slots h w)
  clear h
  go_enter Try.func4, Try.ntmps4
  go_wp2_with (first
    | (go_at_call 22; (with_reducible refine (H1.out _).mono ?_); rintro e w' ⟨rfl, rfl⟩)
    | (go_at_call 23; (with_reducible refine (H2.out _).mono ?_); rintro e w' ⟨rfl, rfl⟩)
    | (go_at_call 15; (with_reducible refine (num_any _ _).mono ?_); rintro e w' ⟨rfl, rfl⟩))
  go_ret
  exact ⟨rfl, Below.refl _ _⟩
set_option maxRecDepth 20000 in
set_option maxHeartbeats 4000000 in
theorem lru_yes (M : Nat) (h1 : 1 ≤ M) (h2 : M ≤ 16) (hl : l.length ≤ 140737488351232) (hs : RdS encA3 3 w A0 l) (hwf : ∀ x ∈ l, (Lit.int .i64 x.2.2).wf = true) :
    Calls Try.prog 4 #[.int .i64 (M : Int), .slice A0 l.length c0] w fun e w' => e = .returned (.bool true) ∧ Below w.heap.size w w' := by
  have H1 := Lib.hid (fun w => KS.new_yes M h1 h2 w)
  have H2 := Lib.hid (fun w => rnew_yes M h1 h2 w)
  have Hs := Lib.hid hs
  have Hwf := Lib.hid hwf
  clear hs hwf h1 h2
  go_enter Try.func4, Try.ntmps4
  go_wp2_with fail
  refine (H1.out _).mono ?_
  rintro e w1 ⟨G, F0, rfl, L1, B1, f1⟩
  have HL1 := Lib.hid L1
  have HB1 := Lib.hid B1
  have Hf1 := Lib.hid f1
  clear L1 B1 f1
  go_wp2_with fail
  refine (H2.out _).mono ?_
  rintro e w2 ⟨H, FR, rfl, R2, B2, f2⟩
  have X0 := Lib.hid (show LX w.heap.size G H w w2 0 (newL M) (newR M) F0 FR from
    ⟨HB1.out.trans ((Chg.of_below (fun _ _ => False) B2).below HB1.out.size fun _ _ _ h => h), Nat.le_trans HB1.out.size B2.size, HL1.out.below B2, R2, RSim.new_ M, refsLe_new M, Int.le_refl _, Hf1.out, fun k i hk => ⟨Nat.le_trans HB1.out.size (f2 k i hk), fun hf => by have := HL1.out.fp_lt hf; have := f2 k i hk; omega⟩⟩)
  clear R2 B2 f2 HL1 HB1 Hf1 H1 H2
  go_wp2_with (first
    | (go_at_call 15; (with_reducible refine (num_any _ _).mono ?_); rintro e w' ⟨rfl, rfl⟩))
  go_loopw [9] (fun t9 wr => ∃ (i : Nat) (s : LruS) (r : RLru) (F : Nat → Nat → Prop), i ≤ l.length ∧ t9 = .int .i64 (i : Int) ∧ Hid (LX w.heap.size G H w wr i s r F FR)) (fun t9 _ => l.length - (intOf t9).toNat)
  case atStart => exact ⟨0, newL M, newR M, F0, Nat.zero_le _, rfl, X0⟩
  case round =>
    clear X0
    obtain ⟨i, s, r, F, hi, rfl, HX⟩ := hrel
    by_cases hlt : i < l.length
    · obtain ⟨g, o, x, hA, hgl, hx, hc⟩ := Hs.out.at_ hlt
      subst hA
      have c := fun (q : Nat) (v : Value) (hq : (encA3 x)[q]? = some v) => (HX.out.bel.cell (p := ⟨g, o + (i * 3 + q), none⟩) hgl).trans (hc q v hq)
      have x0 : wr.cell? ⟨g, o + i * 3, none⟩ = some (.int .i64 x.1) := c 0 _ rfl
      have x1 : wr.cell? ⟨g, o + i * 3 + 1, none⟩ = some (.int .i64 x.2.1) := c 1 _ rfl
      have x2 : wr.cell? ⟨g, o + i * 3 + 2, none⟩ = some (.int .i64 x.2.2) := c 2 _ rfl
      have hlt' : (i : Int) < (l.length : Int) := by omega
      have HT := Lib.hid (texts_any HX.out x.1 x.2.1 x.2.2 (i : Int) (Hwf.out x (List.mem_of_getElem? hx)) (wf64 (by omega)) (by omega))
      clear hx hc c
      go_wp2_with fail
      refine HT.out.mono ?_
      rintro e w5 ⟨rfl, s', r', F', hX'⟩
      have HX' := Lib.hid hX'
      clear hX' HT
      go_wp2_with fail
      go_roundw
      case rel => exact ⟨i + 1, s', r', F', by omega, by go_num, HX'⟩
      case measure => simp [intOf]; omega
    · obtain rfl : i = l.length := by omega
      have HT := Lib.hid (texts_any HX.out 4 0 0 (-1) (by decide) (by decide) (by omega))
      go_wp2_with fail
      refine HT.out.mono ?_
      rintro e w5 ⟨rfl, s', r', F', hX'⟩
      have HX' := Lib.hid hX'
      clear hX' HT
      go_wp2_with fail
      go_ret
      exact ⟨rfl, HX'.out.bel⟩
theorem lru_law (slots : Int) (A0 : Option Addr) (c0 : Nat) (l : List (Int × Int × Int)) (w : World) (_ : (Lit.int .i64 slots).wf = true) (hl : l.length ≤ 140737488351232) (hs : RdS encA3 3 w A0 l) (hwf : ∀ x ∈ l, (Lit.int .i64 x.2.2).wf = true) :
    Calls Try.prog 4 #[.int .i64 slots, .slice A0 l.length c0] w fun e w' => e = .returned (.bool true) ∧ Below w.heap.size w w' := by
  by_cases h : slots < 1 ∨ 16 < slots
  · exact lru_no slots h
  · obtain ⟨M, rfl⟩ : ∃ M : Nat, slots = (M : Int) := ⟨slots.toNat, by omega⟩
    exact lru_yes M (by omega) (by omega) hl hs hwf
end
end Go.Proofs.Ytiidheknlacioaa
