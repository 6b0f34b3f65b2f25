/- The Lru of package actlog, keys texts: New, free, Refs, by contract. -/
import Derived.Test.YtiidheknlacioaaLruMS
import Derived.Shelf.SlicesQ.IndexFunc
import Derived.Shelf.SlGeneric
import Derived.Ground.SlgfProg
import Derived.Lib.SliceRun
namespace Go.Proofs.Ytiidheknlacioaa.KS
open Go.RowKit Go.Shelf Go.Lib
set_option linter.unusedVariables false
set_option linter.unusedSimpArgs false
shelf_lay_g SlLaysH0.n6 Slgf 6 at Try 128 as Try.ixfS
section
variable {w w' : World} {G N gp b n ci : Nat} {s : LruS} {F F' : Nat → Nat → Prop} {Ai : Option Addr}
set_option maxRecDepth 20000 in
theorem new_no (x : Int) (h : x < 1 ∨ 16 < x) (w : World) : Calls Try.prog 22 #[.int .i64 x] w fun e w' => e = .returned (.tuple #[.pointer none, .int .i64 1]) ∧ w = w' := by
  rcases h with h | h
  · go_enter Try.func22, Try.ntmps22
    go_wp2
    go_ret2
    exact ⟨rfl, rfl⟩
  · have h1 : ¬ x < 1 := by omega
    go_enter Try.func22, Try.ntmps22
    go_wp2
    go_ret2
    exact ⟨rfl, rfl⟩
set_option maxRecDepth 20000 in
theorem new_yes (n : Nat) (h1 : 1 ≤ n) (h2 : n ≤ 16) (w : World) : Calls Try.prog 22 #[.int .i64 (n : Int)] w fun e w' =>
    ∃ G F, e = .returned (.tuple #[.pointer (some ⟨G, 0, none⟩), .int .i64 0]) ∧ LruAt w' G 0 (newL n) F ∧ Below w.heap.size w w' ∧ ∀ k i, F k i → w.heap.size ≤ k := by
  obtain ⟨cs, mk, g0⟩ := mk_pl n h2 w
  have hmm := @run_makeMap Try.prog
  have a1 : ¬ (n : Int) < 1 := by omega
  have a2 : ¬ (16 : Int) < (n : Int) := by omega
  obtain ⟨w1, hw1⟩ : ∃ W, W = w.alloc (.cells cs 195) := ⟨_, rfl⟩
  rw [← hw1] at mk g0
  have s1 : w1.heap.size = w.heap.size + 1 := by rw [hw1]; simp
  have B1 : Below w.heap.size w w1 := by rw [hw1]; exact (Below.refl _ w).alloc (Nat.le_refl _) _
  have fin : LruAt ((w1.alloc (.map #[] 0)).alloc (.cells #[.slice (some ⟨w.heap.size, 0, none⟩) n n, .map (some w1.heap.size), .slice none 0 0] 128)) (w1.heap.size + 1) 0 (newL n) (lruFp (w1.heap.size + 1) w.heap.size w1.heap.size none 0) := by
    have hb := Blk.new (w1.alloc (.map #[] 0)) 128 #[.slice (some ⟨w.heap.size, 0, none⟩) n n, .map (some w1.heap.size), .slice none 0 0]
    rw [World.size_alloc] at hb
    have hl : (newL n).ps.length = n := by simp [newL]
    have ka := (Chg.alloc (fun k _ => w1.heap.size ≤ k) w1 (.map #[] 0)).trans (Chg.alloc (fun k _ => w1.heap.size ≤ k) (w1.alloc (.map #[] 0)) (.cells #[.slice (some ⟨w.heap.size, 0, none⟩) n n, .map (some w1.heap.size), .slice none 0 0] 128)) fun _ _ _ h => h
    refine ⟨w.heap.size, w1.heap.size, 0, none, 0, ⟨?_, ?_, ?_, GSl.nil_, LruOk.new_ n, fun i k r h => ?_, by omega⟩, Nat.le_refl _, fun _ _ => Iff.rfl⟩
    · rw [hl]; exact hb
    · rw [hl]
      exact g0.chg ka encPl_len fun g i ⟨o, ho, _⟩ hle => by cases ho; omega
    · have h0 : slotS (newL n) = fun _ => none := by
        funext k
        cases hs : slotS (newL n) k with
        | none => rfl
        | some i =>
          have := (slotS_some hs).1
          have := List.eq_of_mem_replicate (List.mem_of_getElem? this)
          cases this
      rw [h0]
      exact (IMap.made Try.prog 9 kL kOk w1).keep (by rw [Below.heap_alloc _ _ _ (by simp)])
    · have := List.eq_of_mem_replicate (List.mem_of_getElem? h)
      cases this
  have bel : Below w.heap.size w ((w1.alloc (.map #[] 0)).alloc (.cells #[.slice (some ⟨w.heap.size, 0, none⟩) n n, .map (some w1.heap.size), .slice none 0 0] 128)) := (B1.alloc (by omega) _).alloc (by simp; omega) _
  have hfl : ∀ k i, lruFp (w1.heap.size + 1) w.heap.size w1.heap.size none 0 k i → w.heap.size ≤ k := fun k i hk => by
    rcases hk with rfl | rfl | rfl | ⟨_, e, _⟩
    · omega
    · exact Nat.le_refl _
    · omega
    · cases e
  have HF := Lib.hid fin
  have HB := Lib.hid bel
  have HL := Lib.hid hfl
  clear fin bel hfl B1 g0 hw1 s1
  go_enter Try.func22, Try.ntmps22
  go_wp2
  go_ret2
  exact ⟨_, rfl, _, HF.out, HB.out, HL.out⟩
/-! ### the first free place -/
def freeI (s : LruS) : Int := match freeS s with | some i => i | none => -1
theorem idx_free (l : List Plc) (k : Nat) : Lib.idxByFrom (fun _ y => (y : Plc).isNone) default l k = match l.findIdx? (·.isNone) with | some i => ((k + i : Nat) : Int) | none => -1 := by
  induction l generalizing k with
  | nil => rfl
  | cons p l ih =>
    unfold Lib.idxByFrom
    rw [List.findIdx?_cons]
    cases hp : p.isNone with
    | true => simp
    | false =>
      simp only [Bool.false_eq_true, if_false]
      rw [ih]
      cases l.findIdx? (·.isNone) with
      | none => rfl
      | some i => show (((k + 1 + i : Nat) : Int)) = ((k + (i + 1) : Nat) : Int); congr 1; omega
theorem free_pred (w : World) : PredBelow Try.prog 129 #[] (fun x => .agg (encPl x).toArray) (fun x => (x : Plc).isNone) w := fun W x hb => by
  cases x with
  | none =>
    show Calls Try.prog 129 #[.agg #[.string ⟨#[]⟩, .int .i64 0, .bool false]] W _
    go_enter Try.func129, Try.ntmps129
    go_wp2
    go_ret
    exact ⟨rfl, hb.alloc hb.size _⟩
  | some x =>
    show Calls Try.prog 129 #[.agg #[.string (nameB x.1), .int .i64 x.2, .bool true]] W _
    go_enter Try.func129, Try.ntmps129
    go_wp2
    go_ret
    exact ⟨rfl, hb.alloc hb.size _⟩
set_option maxRecDepth 20000 in
set_option maxHeartbeats 2000000 in
theorem free_any (h : LruIn w G s gp b n Ai ci) : Calls Try.prog 104 #[.pointer (some ⟨G, 0, none⟩)] w fun e w' => e = .returned (.int .i64 (freeI s)) ∧ Below w.heap.size w w' := by
  have eg : ∀ args w, (callFunc 129 args).run Try.prog w = .ok (.enter 129 args) w := enters_of Try.func129 (by kernel_rfl) rfl
  have hcon := AnyQ.slices_IndexFunc Try.ixfS 3 Try.isAgg195 Try.sizeOf195 encPl encPl_len (fun x => (x : Plc).isNone) 129 #[] eg gp 0 s.ps.length s.ps.length s.ps w (free_pred w) (Nat.le_refl _) (by have := h.len; omega) (by obtain ⟨cs, hb⟩ := h.rowB; exact hb.lt)
    (fun j hj i v hi => by
      have hp : s.ps[j]? = some s.ps[j]! := by rw [List.getElem?_eq_getElem hj, getElem!_pos s.ps j hj]
      rw [Nat.zero_add]
      exact (h.plc hp i v hi).1)
  change Calls Try.prog 128 _ _ _ at hcon
  have hr : Lib.idxBy (fun _ y => (y : Plc).isNone) (s.ps.take s.ps.length) default = freeI s := by
    rw [List.take_length]
    unfold Lib.idxBy freeI freeS
    rw [idx_free]
    cases s.ps.findIdx? (·.isNone) with
    | none => rfl
    | some i => simp
  rw [hr] at hcon
  obtain ⟨c0, _, _⟩ := h.cells
  generalize freeI s = r at hcon ⊢
  have HC := Lib.hid hcon
  clear h hr hcon
  go_enter Try.func104, Try.ntmps104
  go_wp2_with (go_at_call 128; (with_reducible refine HC.out.mono ?_); rintro e w' ⟨rfl, hb'⟩)
  go_ret
  exact ⟨rfl, hb'⟩
set_option maxRecDepth 20000 in
set_option maxHeartbeats 2000000 in
theorem refs_any (key : Int) (h : LruAt w G N s F) (hk : kOk key) : Calls Try.prog 65 #[.pointer (some ⟨G, 0, none⟩), kV key] w fun e w' => e = .returned (.int .i64 (refsS s key)) ∧ w' = w := by
  obtain ⟨gp, b, n, Ai, ci, h, hN, hF⟩ := h
  obtain ⟨c0, c1, c2⟩ := h.cells
  have hlook := h.look hk
  unfold refsS
  cases hs : slotS s key with
  | none =>
    rw [hs] at hlook
    simp only [Option.getD_none, Option.isSome_none] at hlook
    clear h hs hF hN
    go_enter Try.func65, Try.ntmps65
    go_wp2
    go_ret
    exact ⟨rfl, rfl⟩
  | some i =>
    rw [hs] at hlook
    simp only [Option.getD_some, Option.isSome_some] at hlook
    obtain ⟨h1, hlt, _⟩ := slotS_some hs
    have hr := (h.plc h1 1 _ rfl).1
    have hlt' : (i : Int) < (s.ps.length : Int) := by omega
    dsimp only
    generalize (plcAt s i).2 = r at hr ⊢
    generalize s.ps.length = L at *
    clear h hs hF hN h1
    go_enter Try.func65, Try.ntmps65
    go_wp2
    go_ret
    exact ⟨rfl, rfl⟩
end
end Go.Proofs.Ytiidheknlacioaa.KS
