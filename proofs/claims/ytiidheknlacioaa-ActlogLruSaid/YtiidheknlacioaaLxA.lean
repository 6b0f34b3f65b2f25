/- ActlogLru: Slot of texts, and the state of the walk. -/
import Derived.Test.YtiidheknlacioaaLruVS
import Derived.Test.YtiidheknlacioaaRLruK
import Derived.Test.YtiidheknlacioaaNameW
namespace Go.Proofs.Ytiidheknlacioaa
open Go.RowKit
set_option linter.unusedVariables false
set_option linter.unusedSimpArgs false
section
open KS
variable {w w' : World} {G N gp b n ci : Nat} {s : LruS} {F F' : Nat → Nat → Prop} {Ai : Option Addr}
set_option maxRecDepth 20000 in
set_option maxHeartbeats 2000000 in
theorem slot_anyS (key : Int) (h : LruAt w G N s F) (hk : KS.kOk key) : Calls Try.prog 67 #[.pointer (some ⟨G, 0, none⟩), KS.kV key] w fun e w' => e = .returned (.int .i64 (slotI s key)) ∧ w' = w := by
  obtain ⟨gp, b, n, Ai, ci, h, hN, hF⟩ := h
  obtain ⟨c0, c1, c2⟩ := h.cells
  have hlook := h.look hk
  unfold slotI
  cases hs : slotS s key with
  | none =>
    rw [hs] at hlook
    simp only [Option.getD_none, Option.isSome_none] at hlook
    clear h hs hF hN
    go_enter Try.func67, Try.ntmps67
    go_wp2
    go_ret
    exact ⟨rfl, rfl⟩
  | some i =>
    rw [hs] at hlook
    simp only [Option.getD_some, Option.isSome_some] at hlook
    dsimp only
    clear h hs hF hN
    go_enter Try.func67, Try.ntmps67
    go_wp2
    go_ret
    exact ⟨rfl, rfl⟩
end
/-- both Lrus side by side -/
structure LX (base G H : Nat) (w0 wr : World) (N : Nat) (s : LruS) (r : RLru) (F FR : Nat → Nat → Prop) : Prop where
  bel : Below base w0 wr
  bs : base ≤ wr.heap.size
  lru : KS.LruAt wr G N s F
  ref : RAt wr H r FR
  sim : RSim s r
  rl : refsLe s N
  pl : r.puts ≤ N
  fF : ∀ k i, F k i → base ≤ k
  fR : ∀ k i, FR k i → base ≤ k ∧ ¬ F k i
section
variable {base G H N N' : Nat} {w0 wr w1 w' : World} {s s' : LruS} {r r' : RLru} {F F' FR : Nat → Nat → Prop}
theorem LX.below (h : LX base G H w0 wr N s r F FR) (hB : Below wr.heap.size wr w') : LX base G H w0 w' N s r F FR :=
  { h with bel := h.bel.trans ((Chg.of_below (fun _ _ => False) hB).below h.bs fun _ _ _ h => h), bs := Nat.le_trans h.bs hB.size, lru := h.lru.below hB, ref := h.ref.below hB }
theorem LX.next (h : LX base G H w0 wr N s r F FR) (hN : N ≤ N') : LX base G H w0 wr N' s r F FR :=
  { h with lru := h.lru.mono hN, rl := refsLe_mono h.rl (by omega), pl := by have := h.pl; omega }
/-- the program's has turned, then the document's -/
theorem LX.turn (h : LX base G H w0 wr N s r F FR) (L : KS.LruAt w1 G N' s' F') (hc : Chg F wr w1) (hF : ∀ k i, F' k i → F k i ∨ wr.heap.size ≤ k) :
    RAt w1 H r FR ∧ (∀ w2, RAt w2 H r' FR → Chg FR w1 w2 → RSim s' r' → refsLe s' N' → r'.puts ≤ N' → LX base G H w0 w2 N' s' r' F' FR) := by
  have hFR : ∀ k i, FR k i → ¬ F' k i := fun k i hk hf => by
    rcases hF k i hf with h1 | h1
    · exact (h.fR k i hk).2 h1
    · have := h.ref.fp_lt hk; omega
  have hF0 : ∀ k i, F' k i → base ≤ k := fun k i hf => by
    rcases hF k i hf with h1 | h1
    · exact h.fF k i h1
    · have := h.bs; omega
  refine ⟨h.ref.chg hc fun k i hk => (h.fR k i hk).2, fun w2 R c2 hs hr hp => ⟨?_, ?_, L.chg c2 fun k i hk hf => hFR k i hf hk, R, hs, hr, hp, hF0, fun k i hk => ⟨(h.fR k i hk).1, hFR k i hk⟩⟩⟩
  · exact (h.bel.trans (hc.below h.bs fun j i hj hf => by have := h.fF j i hf; omega)).trans (c2.below (Nat.le_trans h.bs hc.size) fun j i hj hf => by have := (h.fR j i hf).1; omega)
  · exact Nat.le_trans h.bs (Nat.le_trans hc.size c2.size)
end
end Go.Proofs.Ytiidheknlacioaa
