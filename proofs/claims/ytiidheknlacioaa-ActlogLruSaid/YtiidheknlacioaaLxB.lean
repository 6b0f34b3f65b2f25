/- ActlogLru: a call on both, by contract: Get. -/
import Derived.Test.YtiidheknlacioaaLxA
namespace Go.Proofs.Ytiidheknlacioaa
open Go.RowKit
set_option linter.unusedVariables false
set_option linter.unusedSimpArgs false
section
variable {w w' : World} {H : Nat} {s : LruS} {r : RLru} {FR : Nat → Nat → Prop}
theorem RAt.get (h : RAt w H r FR) (hs : RSim s r) (hb : ∀ i, (plcAt s i).2 ≤ 9223372036854775806) (key : Int) : Calls Try.prog 62 #[.pointer (some ⟨H, 0, none⟩), .int .i64 key] w fun e w' => e = .returned (rGetV s key) ∧ RAt w' H (rGetT r s key) FR ∧ Chg FR w w' := by
  obtain ⟨A, c, h, hl, hF⟩ := h
  refine (rget_any key h hl hs hb).mono ?_
  rintro e w' ⟨rfl, R, k⟩
  exact ⟨rfl, ⟨A, c, R, by rw [(hs.get key).len, getT_len, ← hs.len]; exact hl, hF⟩, k.mono fun k i _ hk => (hF k i).2 hk⟩
theorem RAt.put (h : RAt w H r FR) (hs : RSim s r) (hb : ∀ i, (plcAt s i).2 ≤ 9223372036854775806) (hp : r.puts ≤ 9223372036854775806) (key : Int) : Calls Try.prog 64 #[.pointer (some ⟨H, 0, none⟩), .int .i64 key] w fun e w' => e = .returned (.int .i64 (putR s key)) ∧ RAt w' H (rPutT r s key) FR ∧ Chg FR w w' := by
  obtain ⟨A, c, h, hl, hF⟩ := h
  refine (rput_any key h hl hs hb hp).mono ?_
  rintro e w' ⟨rfl, R, k⟩
  exact ⟨rfl, ⟨A, c, R, by rw [(hs.put key).len, putT_len, ← hs.len]; exact hl, hF⟩, k.mono fun k i _ hk => (hF k i).2 hk⟩
theorem RAt.refs (h : RAt w H r FR) (hs : RSim s r) (key : Int) : Calls Try.prog 66 #[.pointer (some ⟨H, 0, none⟩), .int .i64 key] w fun e w' => e = .returned (.int .i64 (refsS s key)) ∧ Below w.heap.size w w' := by
  obtain ⟨A, c, h, hl, hF⟩ := h
  refine (rrefs_any key h hl).mono ?_
  rintro e w' ⟨rfl, n, rfl⟩
  exact ⟨by rw [hs.refs], below_drewN (Below.refl _ _) n⟩
theorem RAt.slot (h : RAt w H r FR) (hs : RSim s r) (key : Int) : Calls Try.prog 68 #[.pointer (some ⟨H, 0, none⟩), .int .i64 key] w fun e w' => e = .returned (.int .i64 (slotI s key)) ∧ Below w.heap.size w w' := by
  obtain ⟨A, c, h, hl, hF⟩ := h
  refine (rslot_any key h hl).mono ?_
  rintro e w' ⟨rfl, n, rfl⟩
  exact ⟨by rw [rSlotI_of hs], below_drewN (Below.refl _ _) n⟩
theorem RAt.keys (h : RAt w H r FR) (hs : RSim s r) (hp : r.puts ≤ 4611686018427387904) : Calls Try.prog 70 #[.pointer (some ⟨H, 0, none⟩)] w fun e w' => ∃ A' c', e = .returned (.slice A' (keysS s).length c') ∧ GSl encK 1 3 w' A' c' (keysS s) ∧ Below w.heap.size w w' ∧ ∀ j i, slFp 1 A' 0 c' j i → w.heap.size ≤ j := by
  obtain ⟨A, c, h, hl, hF⟩ := h
  refine (rkeys_any h hl hs hp).mono ?_
  rintro e w' ⟨A', c', rfl, g, B, f⟩
  rw [hs.keys] at *
  exact ⟨A', c', rfl, g, B, f⟩
theorem get_vals {G N : Nat} {F : Nat → Nat → Prop} (L : KS.LruAt w G N s F) (key : Int) : ∃ (a : Int) (f : Bool) (ob : ByteArray) (was : Int) (g : Bool) (e : Int), KS.getV s key = .tuple #[.int .i64 a, .bool f, .string ob, .bool g, .int .i64 e] ∧ rGetV s key = .tuple #[.int .i64 a, .bool f, .int .i64 was, .bool g, .int .i64 e] ∧ (g = true → ob = nameB was ∧ (Lit.int .i64 was).wf = true) ∧ (g = false → ob = ⟨#[]⟩) := by
  unfold KS.getV rGetV
  cases hO : getO s key with
  | hit i => exact ⟨_, _, _, _, _, _, rfl, rfl, (fun h => by cases h), fun _ => rfl⟩
  | fresh i => exact ⟨_, _, _, _, _, _, rfl, rfl, (fun h => by cases h), fun _ => rfl⟩
  | starved => exact ⟨_, _, _, _, _, _, rfl, rfl, (fun h => by cases h), fun _ => rfl⟩
  | evict i old =>
    refine ⟨_, _, _, _, _, _, rfl, rfl, fun _ => ⟨rfl, ?_⟩, (fun h => by cases h)⟩
    obtain ⟨gp, b, n, Ai, ci, hl, _, _⟩ := L
    unfold getO at hO
    cases hs : slotS s key with
    | some j => rw [hs] at hO; cases hO
    | none =>
      rw [hs] at hO
      dsimp only at hO
      cases hf : freeS s with
      | some j => rw [hf] at hO; cases hO
      | none =>
        rw [hf] at hO
        dsimp only at hO
        cases hi : s.idle with
        | nil => rw [hi] at hO; cases hO
        | cons j l =>
          rw [hi] at hO
          cases hO
          obtain ⟨k, hk⟩ := (hl.ok.idle i).1 (by rw [hi]; exact List.mem_cons_self ..)
          rw [plcAt_eq hk]
          exact hl.oks _ _ _ hk
theorem getT_puts (r : RLru) (s : LruS) (key : Int) : (rGetT r s key).puts = r.puts := by unfold rGetT; cases getO s key <;> rfl
theorem putT_puts (r : RLru) (s : LruS) (key : Int) : (rPutT r s key).puts ≤ r.puts + 1 := by
  unfold rPutT
  cases slotS s key with
  | none => show r.puts ≤ _; omega
  | some i =>
    dsimp only
    split
    · omega
    · exact Int.le_refl _
end
def TxP (base G H : Nat) (w0 : World) (N : Nat) (FR : Nat → Nat → Prop) (e : Ending) (w' : World) : Prop := e = .returned (.bool true) ∧ ∃ s' r' F', LX base G H w0 w' (N + 1) s' r' F' FR
section
variable {base G H N : Nat} {w0 wr w' : World} {s : LruS} {r : RLru} {F FR : Nat → Nat → Prop}
theorem num_anyS (n : Int) (w : World) : Calls Try.prog 15 #[.int .i64 n] w fun e w' => e = .returned (.int .i64 n) ∧ w = w' := num_any n w
set_option maxRecDepth 20000 in
set_option maxHeartbeats 4000000 in
theorem texts_get (h : LX base G H w0 wr N s r F FR) (of_ key i : Int) (hk : (Lit.int .i64 key).wf = true) (hN : N < 4611686018427387904) :
    Calls Try.prog 24 #[.pointer (some ⟨G, 0, none⟩), .pointer (some ⟨H, 0, none⟩), .agg #[.int .i64 0, .int .i64 of_, .int .i64 key], .int .i64 i] wr (TxP base G H w0 N FR) := by
  obtain ⟨av, f, ob, was, gn, er, e1, e2, e3, e4⟩ := get_vals h.lru key
  have L1 := Lib.hid (h.below ((Below.refl wr.heap.size wr).alloc (Nat.le_refl _) (.cells #[.int .i64 0, .int .i64 of_, .int .i64 key] 49)))
  have HNM := Lib.hid (fun w => name_any key hk w)
  have E1 := Lib.hid e1
  have E2 := Lib.hid e2
  have E3 := Lib.hid e3
  have E4 := Lib.hid e4
  have HK := Lib.hid hk
  have Hh := Lib.hid h
  clear h e1 e2 e3 e4 hk
  go_enter Try.func24, Try.ntmps24
  go_wp2_with fail
  refine (HNM.out _).mono ?_
  rintro e w2 ⟨rfl, B2⟩
  have L2 := Lib.hid (L1.out.below B2)
  have x0 : w2.cell? ⟨wr.heap.size, 0, none⟩ = some (.int .i64 0) := (B2.cell (p := ⟨wr.heap.size, 0, none⟩) (by simp)).trans ((Blk.new wr 49 _).cell 0)
  have x2 : w2.cell? ⟨wr.heap.size, 2, none⟩ = some (.int .i64 key) := (B2.cell (p := ⟨wr.heap.size, 2, none⟩) (by simp)).trans ((Blk.new wr 49 _).cell 2)
  go_wp2_with fail
  refine (KS.get_any key L2.out.lru HK.out hN L2.out.rl).mono ?_
  rintro e w3 ⟨rfl, F3, L3, k3, q3⟩
  rw [E1.out]
  obtain ⟨R3, fin⟩ := L2.out.turn (r' := rGetT r s key) L3 k3 q3
  have y2 : w3.cell? ⟨wr.heap.size, 2, none⟩ = some (.int .i64 key) := k3.cell (fun hf => by have := Hh.out.lru.fp_lt hf; omega) x2
  have FN := Lib.hid fin
  have HG := Lib.hid (R3.get L2.out.sim (fun i => by have := refsLe_at (by omega) L2.out.rl i; omega) key)
  clear fin R3 k3 q3 L3 x0 x2 B2
  go_wp2_with fail
  refine HG.out.mono ?_
  rintro e w4 ⟨rfl, R4, c4⟩
  rw [E2.out]
  have L4 := Lib.hid (FN.out w4 R4 c4 (L2.out.sim.get key) (refsLe_mono (refsLe_get (by omega) L2.out.rl key) (by omega)) (by rw [getT_puts]; have := L2.out.pl; omega))
  clear R4 c4 HG FN
  cases gn with
  | true =>
    obtain ⟨e5, hw⟩ := E3.out rfl
    have HNW := Lib.hid (fun w => name_any was hw w)
    rw [e5]
    clear e5 hw
    go_wp2_with (first
      | (go_at_call 15; (with_reducible refine (num_any _ _).mono ?_); rintro e w' ⟨rfl, rfl⟩)
      | (go_at_call 60; (with_reducible refine (HNW.out _).mono ?_); rintro e w5 ⟨rfl, B5⟩))
    go_ret
    exact ⟨rfl, _, _, _, L4.out.below B5⟩
  | false =>
    have e5 := E4.out rfl
    rw [e5]
    clear e5
    go_wp2_with (first
      | (go_at_call 15; (with_reducible refine (num_any _ _).mono ?_); rintro e w' ⟨rfl, rfl⟩))
    go_ret
    exact ⟨rfl, _, _, _, L4.out⟩
end
end Go.Proofs.Ytiidheknlacioaa
