/- The Lru of package actlog, keys texts: in memory; New, free, Refs, Slot, by contract. -/
import Derived.Test.YtiidheknlacioaaProg
import Derived.Test.YtiidheknlacioaaGSet
import Derived.Test.YtiidheknlacioaaLruP
import Derived.Test.YtiidheknlacioaaNameP
--I
--G
--P
--S
namespace Go.Proofs.Ytiidheknlacioaa.KS
open Go.RowKit
set_option linter.unusedVariables false
set_option linter.unusedSimpArgs false
abbrev kC (k : Int) : List Value := [.string (nameB k)]
abbrev kV (k : Int) : Value := .string (nameB k)
abbrev kZ : List Value := [.string ⟨#[]⟩]
abbrev kZV : Value := .string ⟨#[]⟩
abbrev kL (k : Int) : Lit := .string (nameB k).data.toList
abbrev kOk (k : Int) : Prop := (Lit.int .i64 k).wf = true
theorem kW : KeyW Try.prog 9 kV kL kOk := ⟨Maps.string_keyed Try.underlying9, fun x hx => Go.WideMaps.keyOf_string_mk Try.underlying9 (by have := nameL_len x; show (nameL x).toArray.size ≤ maxLen; rw [List.size_toArray]; unfold maxLen; omega), fun x y hx hy h => nameB_inj (wf64_ hx) (wf64_ hy) (by injection h), fun x _ => by first | exact trivial | simp [WideAt.IsKeyLit]⟩
/-- a place's cells -/
def encPl : Plc → List Value
  | none => kZ ++ [.int .i64 0, .bool false]
  | some x => kC x.1 ++ [.int .i64 x.2, .bool true]
theorem encPl_len (p : Plc) : (encPl p).length = 3 := by cases p <;> rfl
theorem encPl_one (p : Plc) : ∀ v ∈ encPl p, v.oneCell' = true := fun v hv => by
  cases p <;> simp only [encPl, kC, kZ, List.cons_append, List.nil_append, List.mem_cons, List.not_mem_nil, or_false] at hv <;> (rcases hv with rfl | rfl | rfl) <;> rfl
structure LruIn (w : World) (G : Nat) (s : LruS) (gp b n : Nat) (Ai : Option Addr) (ci : Nat) : Prop where
  blk : Blk w G 128 #[.slice (some ⟨gp, 0, none⟩) s.ps.length s.ps.length, .map (some b), .slice Ai s.idle.length ci]
  row : GSl encPl 3 195 w (some ⟨gp, 0, none⟩) s.ps.length s.ps
  map : IMap Try.prog 9 kL kOk w b n (slotS s)
  idl : GSl encN 1 3 w Ai ci s.idle
  ok : LruOk s
  oks : ∀ (i : Nat) (k r : Int), s.ps[i]? = some (some (k, r)) → kOk k
  len : 1 ≤ s.ps.length ∧ s.ps.length ≤ 16
def lruFp (G gp b : Nat) (Ai : Option Addr) (ci : Nat) : Nat → Nat → Prop := fun k i => k = G ∨ k = gp ∨ k = b ∨ slFp 1 Ai 0 ci k i
def LruAt (w : World) (G N : Nat) (s : LruS) (F : Nat → Nat → Prop) : Prop := ∃ gp b n Ai ci, LruIn w G s gp b n Ai ci ∧ n ≤ N ∧ ∀ k i, F k i ↔ lruFp G gp b Ai ci k i
section
variable {w w' : World} {G N gp b n ci : Nat} {s : LruS} {F F' : Nat → Nat → Prop} {Ai : Option Addr}
theorem LruIn.cells (h : LruIn w G s gp b n Ai ci) : w.cell? ⟨G, 0, none⟩ = some (.slice (some ⟨gp, 0, none⟩) s.ps.length s.ps.length) ∧ w.cell? ⟨G, 1, none⟩ = some (.map (some b)) ∧ w.cell? ⟨G, 2, none⟩ = some (.slice Ai s.idle.length ci) :=
  ⟨h.blk.cell 0, h.blk.cell 1, h.blk.cell 2⟩
theorem LruIn.rowB (h : LruIn w G s gp b n Ai ci) : ∃ cs, Blk w gp 195 cs := by
  rcases h.row with ⟨h, _⟩ | ⟨g, o, cs, e, _, _, hb, _⟩
  · cases h
  · cases e; exact ⟨cs, hb⟩
theorem LruIn.ne_row (h : LruIn w G s gp b n Ai ci) : gp ≠ G ∧ gp ≠ b ∧ ∀ i, ¬ slFp 1 Ai 0 ci gp i := by
  obtain ⟨cs, hb⟩ := h.rowB
  exact ⟨hb.ne_ h.blk (by decide), h.map.not_cells hb, fun i hs => absurd (slFp_type h.idl hs hb) (by decide)⟩
theorem LruIn.ne_blk (h : LruIn w G s gp b n Ai ci) : G ≠ b ∧ ∀ i, ¬ slFp 1 Ai 0 ci G i :=
  ⟨h.map.not_cells h.blk, fun i hs => absurd (slFp_type h.idl hs h.blk) (by decide)⟩
theorem LruIn.ne_map (h : LruIn w G s gp b n Ai ci) : ∀ i, ¬ slFp 1 Ai 0 ci b i := fun i hs => by
  obtain ⟨cs, hb⟩ := slFp_cells h.idl hs
  exact h.map.not_cells hb rfl
theorem LruIn.chg (h : LruIn w G s gp b n Ai ci) (hc : Chg F' w w') (hn : ∀ k i, lruFp G gp b Ai ci k i → ¬ F' k i) : LruIn w' G s gp b n Ai ci :=
  ⟨hc.blk h.blk fun i => hn _ _ (.inl rfl), h.row.chg hc encPl_len fun g i ⟨o, ho, h1, h2⟩ => by cases ho; exact hn _ _ (.inr (.inl rfl)), h.map.chg hc fun i => hn _ _ (.inr (.inr (.inl rfl))),
   h.idl.chg hc encN_len fun g i hs => hn _ _ (.inr (.inr (.inr (slFp_len h.idl hs)))), h.ok, h.oks, h.len⟩
theorem LruIn.fp_lt (h : LruIn w G s gp b n Ai ci) {k i : Nat} (hk : lruFp G gp b Ai ci k i) : k < w.heap.size := by
  rcases hk with rfl | rfl | rfl | hs
  · exact h.blk.lt
  · obtain ⟨cs, hb⟩ := h.rowB; exact hb.lt
  · exact h.map.lt
  · exact slFp_lt h.idl hs
theorem LruAt.chg (h : LruAt w G N s F) (hc : Chg F' w w') (hn : ∀ k i, F k i → ¬ F' k i) : LruAt w' G N s F := by
  obtain ⟨gp, b, n, Ai, ci, h, hN, hF⟩ := h
  exact ⟨gp, b, n, Ai, ci, h.chg hc fun k i hk => hn k i ((hF k i).2 hk), hN, hF⟩
theorem LruAt.fp_lt (h : LruAt w G N s F) {k i : Nat} (hk : F k i) : k < w.heap.size := by
  obtain ⟨gp, b, n, Ai, ci, h, hN, hF⟩ := h
  exact h.fp_lt ((hF k i).1 hk)
theorem LruAt.below (h : LruAt w G N s F) (hB : Below w.heap.size w w') : LruAt w' G N s F := h.chg (Chg.of_below (fun _ _ => False) hB) fun _ _ _ h => h
theorem LruAt.mono (h : LruAt w G N s F) {N' : Nat} (hN : N ≤ N') : LruAt w G N' s F := by
  obtain ⟨gp, b, n, Ai, ci, h, hn, hF⟩ := h
  exact ⟨gp, b, n, Ai, ci, h, Nat.le_trans hn hN, hF⟩
theorem LruAt.ok (h : LruAt w G N s F) : LruOk s := by obtain ⟨gp, b, n, Ai, ci, h, hn, hF⟩ := h; exact h.ok
theorem LruAt.len (h : LruAt w G N s F) : 1 ≤ s.ps.length ∧ s.ps.length ≤ 16 := by obtain ⟨gp, b, n, Ai, ci, h, hn, hF⟩ := h; exact h.len
/-- a place's cells in memory -/
theorem LruIn.plc (h : LruIn w G s gp b n Ai ci) {i : Nat} {p : Plc} (hp : s.ps[i]? = some p) : ∀ j v, (encPl p)[j]? = some v → w.cell? ⟨gp, i * 3 + j, none⟩ = some v ∧ w.frozen? ⟨gp, i * 3 + j, none⟩ = false := by
  obtain ⟨g, o, e, _, hc⟩ := h.row.cell hp
  cases e
  intro j v hv
  have := hc j v hv
  rwa [Nat.zero_add] at this
theorem LruIn.look (h : LruIn w G s gp b n Ai ci) {key : Int} (hk : kOk key) : (Instr.lookup 126 (.map (some b)) (kV key) true).run Try.prog w = .ok (.tuple #[.int .i64 (((slotS s key).getD 0 : Nat) : Int), .bool (slotS s key).isSome]) w :=
  h.map.look kW Try.underlying3 Try.underlying126 (Try.zeroValue3 w) hk

/-! ### New -/
theorem plTy : SlTy Try.prog 125 195 3 32 := SlTy.mk' (z := .agg #[.string ⟨#[]⟩, .int .i64 0, .bool false]) Try.underlying125 (by kernel_rfl) rfl
theorem mk_pl (n : Nat) (h : n ≤ 16) (W : World) : ∃ cs, (Instr.makeSlice 125 (.int .i64 (n : Int)) (.int .i64 (n : Int))).run Try.prog W = .ok (.slice (some ⟨W.heap.size, 0, none⟩) n n) (W.alloc (.cells cs 195)) ∧
    GSl encPl 3 195 (W.alloc (.cells cs 195)) (some ⟨W.heap.size, 0, none⟩) n (List.replicate n none) := by
  obtain ⟨i, z, hi, hz, hs, hb, hc⟩ := plTy.ex
  have e1 : (Try.prog.info? 195).map (·.zero) = some (some (.agg #[.string ⟨#[]⟩, .int .i64 0, .bool false])) := by kernel_rfl
  rw [hi] at e1
  have e2 : z = .agg #[.string ⟨#[]⟩, .int .i64 0, .bool false] := by
    simp only [Option.map_some, Option.some.injEq] at e1
    rw [hz] at e1
    exact Option.some.inj e1
  subst e2
  have h2 := run_make W 125 195 i (.agg #[.string ⟨#[]⟩, .int .i64 0, .bool false]) plTy.und hi hz .i64 .i64 (n : Int) (n : Int) (by omega) (by omega) (by rw [hb]; omega) (by omega)
  rw [hs, Int.toNat_natCast] at h2
  refine ⟨_, h2, .inr ⟨_, _, _, rfl, by simp, by unfold maxLen; omega, heap_alloc_new W _, by simp [madeCells], fun k x hx j v hv => ?_⟩⟩
  have hk := (List.getElem?_eq_some_iff.1 hx).1
  rw [List.length_replicate] at hk
  have hx0 := List.eq_of_mem_replicate (List.mem_of_getElem? hx)
  subst hx0
  have hj := (List.getElem?_eq_some_iff.1 hv).1
  rw [encPl_len] at hj
  have e3 : (k * 3 + j) % 3 = j := by omega
  have e4 : k * 3 + j < n * 3 := by omega
  have e5 : (Value.agg #[.string ⟨#[]⟩, .int .i64 0, .bool false]).cells.size = 3 := rfl
  rw [Nat.zero_add]
  unfold madeCells
  rw [Array.getElem?_map, Array.getElem?_range, if_pos e4, e5]
  simp only [Option.map_some, e3]
  rw [← hv]
  obtain ⟨⟩ | ⟨j⟩ := j
  all_goals first | rfl | skip
  obtain ⟨⟩ | ⟨j⟩ := j
  all_goals first | rfl | skip
  obtain ⟨⟩ | ⟨j⟩ := j
  all_goals first | rfl | skip
  obtain ⟨⟩ | ⟨j⟩ := j
  all_goals first | rfl | omega
end
end Go.Proofs.Ytiidheknlacioaa.KS
