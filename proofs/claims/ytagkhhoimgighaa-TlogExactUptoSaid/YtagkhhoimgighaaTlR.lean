/- The document's log in memory: of, find, New, by contract. -/
import Derived.Test.YtagkhhoimgighaaTlSim
import Derived.Test.YtagkhhoimgighaaTlBk
namespace Go.Proofs.Ytagkhhoimgighaa
open Go.RowKit
set_option linter.unusedVariables false
set_option linter.unusedSimpArgs false
def encL (x : Ln) : List Value := [.int .i64 x.1, .int .i64 x.2.1, .int .i64 x.2.2.1, .bool x.2.2.2]
theorem encL_len (x : Ln) : (encL x).length = 4 := rfl
theorem encL_one (x : Ln) : ∀ v ∈ encL x, v.oneCell' = true := fun v hv => by
  simp only [encL, List.mem_cons, List.not_mem_nil, or_false] at hv
  rcases hv with rfl | rfl | rfl | rfl <;> rfl
theorem lnTy : SlTy Try.prog 77 81 4 32 := SlTy.mk' (z := .agg #[.int .i64 0, .int .i64 0, .int .i64 0, .bool false]) Try.underlying77 (by kernel_rfl) rfl
/-- the document's log in memory -/
structure RefIn (w : World) (R : Nat) (r : RefT) (A : Option Addr) (c : Nat) : Prop where
  blk : Blk w R 79 #[.slice A r.lines.length c, .int .i64 r.now, .int .i64 r.limit, .int .i64 r.each]
  row : GSl encL 4 81 w A c r.lines
  loc : A = none ∨ ∃ g, A = some ⟨g, 0, none⟩
def refFp (R : Nat) (A : Option Addr) (k : Nat) : Prop := k = R ∨ blkOf A k
def RefAt (w : World) (R : Nat) (r : RefT) (F : Nat → Prop) : Prop := ∃ A c, RefIn w R r A c ∧ ∀ k, F k ↔ refFp R A k
theorem line_blk {wr : World} {A : Option Addr} {c : Nat} {l : List Ln} {k : Nat} (h : GSl encL 4 81 wr A c l) (hk : blkOf A k) : ∃ cs, Blk wr k 81 cs := by
  obtain ⟨a, e, rfl⟩ := hk
  rcases h with ⟨h2, _⟩ | ⟨g2, o2, cs2, h2, _, _, h3, _⟩
  · rw [h2] at e; cases e
  · rw [h2] at e; cases e; exact ⟨cs2, h3⟩
section
variable {w w' : World} {R : Nat} {r : RefT} {A : Option Addr} {c : Nat} {F : Nat → Prop}
theorem RefIn.typ (h : RefIn w R r A c) {k : Nat} (hk : refFp R A k) : ∃ t cs, Blk w k t cs ∧ (t = 79 ∨ t = 81) := by
  rcases hk with rfl | hk
  · exact ⟨_, _, h.blk, .inl rfl⟩
  · obtain ⟨cs, hb⟩ := line_blk h.row hk; exact ⟨_, cs, hb, .inr rfl⟩
theorem RefIn.chg {F : Nat → Nat → Prop} (h : RefIn w R r A c) (hc : Chg F w w') (hn : ∀ k, refFp R A k → ∀ i, ¬ F k i) : RefIn w' R r A c :=
  ⟨hc.blk h.blk (hn R (.inl rfl)), h.row.chg hc encL_len fun g i hs => hn g (.inr (slFp_blk hs)) i, h.loc⟩
theorem RefIn.below (h : RefIn w R r A c) (hB : Below w.heap.size w w') : RefIn w' R r A c := h.chg (Chg.of_below (fun _ _ => False) hB) fun _ _ _ h => h
theorem RefAt.typ (h : RefAt w R r F) {k : Nat} (hk : F k) : ∃ t cs, Blk w k t cs ∧ (t = 79 ∨ t = 81) := by
  obtain ⟨A, c, h, hF⟩ := h
  exact h.typ ((hF k).1 hk)
theorem RefAt.chg {F' : Nat → Nat → Prop} (h : RefAt w R r F) (hc : Chg F' w w') (hn : ∀ k, F k → ∀ i, ¬ F' k i) : RefAt w' R r F := by
  obtain ⟨A, c, h, hF⟩ := h
  exact ⟨A, c, h.chg hc fun k hk => hn k ((hF k).2 hk), hF⟩
theorem RefAt.below (h : RefAt w R r F) (hB : Below w.heap.size w w') : RefAt w' R r F := h.chg (Chg.of_below (fun _ _ => False) hB) fun _ _ _ h => h
theorem RefAt.lt (h : RefAt w R r F) {k : Nat} (hk : F k) : k < w.heap.size := by
  obtain ⟨_, _, hb, _⟩ := h.typ hk
  exact hb.lt
theorem RefIn.cap (h : RefIn w R r A c) : (r.lines.length : Int) ≤ 9223372036854775807 := by
  rcases h.row with ⟨_, h, _⟩ | ⟨_, _, _, _, h5, h6, _⟩
  · rw [h]; simp
  · unfold maxLen at h6; omega
end
theorem ofR_take {l : List Ln} {k : Nat} {x : Ln} (e : Int) (hx : l[k]? = some x) : ofR (l.take (k + 1)) e = ofR (l.take k) e + (if x.2.2.1 == e then 1 else 0) := by
  unfold ofR
  rw [List.take_add_one, hx, Option.toList_some, List.filter_append, List.length_append]
  cases h : x.2.2.1 == e <;> simp [h]
theorem ofR_le (l : List Ln) (e : Int) : ofR l e ≤ l.length := List.length_filter_le _ _
end Go.Proofs.Ytagkhhoimgighaa
