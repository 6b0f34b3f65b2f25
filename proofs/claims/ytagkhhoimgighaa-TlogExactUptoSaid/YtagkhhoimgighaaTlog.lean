/- The transfer log of package tlog: what stands in memory, and its calls by contract. -/
import Derived.Test.YtagkhhoimgighaaProg
import Derived.Test.YtagkhhoimgighaaHeap
import Derived.WalkKit
import Derived.KernelRfl
import Derived.Lib.Hide
import Derived.Deep.QuietTactic
import Derived.BigQuiet
import Derived.Outline
import Derived.StillTailTactics
import Derived.Deep.RegionHeld3
namespace Go.Proofs.Ytagkhhoimgighaa
open Go.RowKit

/-- a write in the log: its entry, its turn, whether it is acked, and the block where that stands -/
structure Wr where
  id : Int
  blk : Int
  ep : Int
  turn : Nat
  acked : Bool
  at_ : Nat
def Wr.ok (x : Wr) : Prop := (Lit.int .i64 x.id).wf = true
/-- an entry's cells -/
def encW (x : Wr) : List Value := [.int .i64 x.id, .int .i64 x.blk, .int .i64 x.ep]
theorem encW_len (x : Wr) : (encW x).length = 3 := rfl
theorem encW_one (x : Wr) : ∀ v ∈ encW x, v.oneCell' = true := fun v hv => by
  simp only [encW, List.mem_cons, List.not_mem_nil, or_false] at hv
  rcases hv with rfl | rfl | rfl <;> rfl
def stdW (x : Wr) : Array Value := #[.int .i64 x.id, .int .i64 x.blk, .int .i64 x.ep, .int .u64 x.turn, .bool x.acked]
def findW (l : List Wr) (id : Int) : Option Nat := (l.find? fun x => x.id == id).map (·.at_)
structure LogS where
  limit : Int
  width : Int
  opn : Int
  filled : Int
  turn : Nat
  ws : List Wr
/-- the log's own cells -/
def logFp (G : Nat) (A : Option Addr) (c b : Nat) (ws : List Wr) : Nat → Nat → Prop := fun k i => k = G ∨ k = b ∨ slFp 3 A 0 c k i ∨ ∃ x ∈ ws, k = x.at_
def logC (s : LogS) (A : Option Addr) (c b : Nat) : Array Value := #[.int .i64 s.limit, .int .i64 s.width, .int .i64 s.opn, .int .i64 s.filled, .int .u64 s.turn, .slice A s.ws.length c, .map (some b)]
structure LogIn (w : World) (G : Nat) (s : LogS) (A : Option Addr) (c b n : Nat) : Prop where
  blk : Blk w G 71 (logC s A c b)
  row : GSl encW 3 36 w A c s.ws
  map : PMap Try.prog 3 w b n (findW s.ws)
  std : ∀ x ∈ s.ws, Blk w x.at_ 73 (stdW x)
  ids : s.ws.Pairwise fun x y => x.id ≠ y.id
  ok : ∀ x ∈ s.ws, x.ok
  le : n ≤ s.turn
def LogAt (w : World) (G : Nat) (s : LogS) (F : Nat → Nat → Prop) : Prop := ∃ A c b n, LogIn w G s A c b n ∧ ∀ k i, F k i ↔ logFp G A c b s.ws k i
section
variable {w w' : World} {G : Nat} {s : LogS} {F F' : Nat → Nat → Prop}
theorem LogIn.cells {A : Option Addr} {c b n : Nat} (h : LogIn w G s A c b n) : w.cell? ⟨G, 0, none⟩ = some (.int .i64 s.limit) ∧ w.cell? ⟨G, 1, none⟩ = some (.int .i64 s.width) ∧ w.cell? ⟨G, 2, none⟩ = some (.int .i64 s.opn) ∧ w.cell? ⟨G, 3, none⟩ = some (.int .i64 s.filled) ∧
    w.cell? ⟨G, 4, none⟩ = some (.int .u64 s.turn) ∧ w.cell? ⟨G, 5, none⟩ = some (.slice A s.ws.length c) ∧ w.cell? ⟨G, 6, none⟩ = some (.map (some b)) :=
  ⟨h.blk.cell 0, h.blk.cell 1, h.blk.cell 2, h.blk.cell 3, h.blk.cell 4, h.blk.cell 5, h.blk.cell 6⟩
theorem LogIn.chg {A : Option Addr} {c b n : Nat} (h : LogIn w G s A c b n) (hc : Chg F' w w') (hn : ∀ k i, logFp G A c b s.ws k i → ¬ F' k i) : LogIn w' G s A c b n :=
  ⟨hc.blk h.blk fun i => hn _ _ (.inl rfl), h.row.chg hc encW_len fun g i ⟨o, ho, h1, h2⟩ => hn _ _ (.inr (.inr (.inl ⟨o, ho, h1, Nat.lt_of_lt_of_le h2 (by have := Nat.mul_le_mul_right 3 h.row.le; omega)⟩))), h.map.chg hc fun i => hn _ _ (.inr (.inl rfl)),
    fun x hx => hc.blk (h.std x hx) fun i => hn _ _ (.inr (.inr (.inr ⟨x, hx, rfl⟩))), h.ids, h.ok, h.le⟩
theorem LogAt.chg (h : LogAt w G s F) (hc : Chg F' w w') (hn : ∀ k i, F k i → ¬ F' k i) : LogAt w' G s F := by
  obtain ⟨A, c, b, n, h, hF⟩ := h
  exact ⟨A, c, b, n, h.chg hc fun k i hk => hn k i ((hF k i).2 hk), hF⟩
theorem LogIn.fp_lt {A : Option Addr} {c b n : Nat} (h : LogIn w G s A c b n) {k i : Nat} (hk : logFp G A c b s.ws k i) : k < w.heap.size := by
  rcases hk with rfl | rfl | ⟨o, ho, _⟩ | ⟨x, hx, rfl⟩
  · exact h.blk.lt
  · exact h.map.lt
  · rcases h.row with ⟨rfl, _⟩ | ⟨g, o', cs, rfl, _, _, hb, _⟩
    · cases ho
    · cases ho; exact Chg.lt hb
  · exact (h.std x hx).lt
set_option maxRecDepth 20000 in
theorem size_any (h : LogAt w G s F) : Calls Try.prog 26 #[.pointer (some ⟨G, 0, none⟩)] w fun e w' => e = .returned (.int .i64 s.ws.length) ∧ w = w' := by
  obtain ⟨A, c, b, n, h, _⟩ := h
  obtain ⟨c0, c1, c2, c3, c4, c5, c6⟩ := h.cells
  clear h c0 c1 c2 c3 c4 c6
  go_enter Try.func26, Try.ntmps26
  go_wp2
  go_ret
  exact ⟨rfl, rfl⟩
set_option maxRecDepth 20000 in
theorem open_any (h : LogAt w G s F) : Calls Try.prog 16 #[.pointer (some ⟨G, 0, none⟩)] w fun e w' => e = .returned (.int .i64 s.opn) ∧ w = w' := by
  obtain ⟨A, c, b, n, h, _⟩ := h
  obtain ⟨c0, c1, c2, c3, c4, c5, c6⟩ := h.cells
  clear h c0 c1 c5 c3 c4 c6
  go_enter Try.func16, Try.ntmps16
  go_wp2
  go_ret
  exact ⟨rfl, rfl⟩
/-- the first write's epoch lies in memory -/
theorem LogIn.first {A : Option Addr} {c b n : Nat} (h : LogIn w G s A c b n) {x : Wr} {l : List Wr} (hx : s.ws = x :: l) : ∃ g o, A = some ⟨g, o, none⟩ ∧ w.cell? ⟨g, o + 2, none⟩ = some (.int .i64 x.ep) := by
  obtain ⟨g, o, rfl, _, hc⟩ := h.row.cell (k := 0) (x := x) (by rw [hx]; rfl)
  exact ⟨g, o, rfl, by simpa using (hc 2 _ rfl).1⟩
set_option maxRecDepth 20000 in
set_option maxHeartbeats 1000000 in
theorem settled_any (ep : Int) (h : LogAt w G s F) : Calls Try.prog 20 #[.pointer (some ⟨G, 0, none⟩), .int .i64 ep] w fun e w' => e = .returned (.bool (match s.ws with | [] => true | x :: _ => decide (x.ep > ep))) ∧ w = w' := by
  obtain ⟨A, c, b, n, h, _⟩ := h
  obtain ⟨c0, c1, c2, c3, c4, c5, c6⟩ := h.cells
  cases hw : s.ws with
  | nil =>
    rw [hw] at c5
    clear h c0 c1 c2 c3 c4 c6 hw
    go_enter Try.func20, Try.ntmps20
    go_wp2
    go_ret
    exact ⟨rfl, rfl⟩
  | cons x l =>
    obtain ⟨g, o, rfl, hx⟩ := h.first hw
    rw [hw] at c5
    have h0 : (((x :: l).length : Int) == 0) = false := by rw [beq_eq_false_iff_ne]; simp only [List.length_cons]; omega
    have h1 : (0 : Int) < ((x :: l).length : Int) := by simp only [List.length_cons]; omega
    clear h c0 c1 c2 c3 c4 c6 hw
    generalize (x :: l).length = N at *
    go_enter Try.func20, Try.ntmps20
    go_wp2
    go_ret
    exact ⟨by simp, rfl⟩
set_option maxRecDepth 20000 in
set_option maxHeartbeats 1000000 in
theorem epochs_any (h : LogAt w G s F) (hin : ∀ x ∈ s.ws, -9223372036854775808 ≤ s.opn - x.ep ∧ s.opn - x.ep ≤ 9223372036854775807) : Calls Try.prog 17 #[.pointer (some ⟨G, 0, none⟩)] w fun e w' => e = .returned (.int .i64 (match s.ws with | [] => 0 | x :: _ => s.opn - x.ep)) ∧ ∃ n, w' = w.drewN n := by
  obtain ⟨A, c, b, n, h, _⟩ := h
  obtain ⟨c0, c1, c2, c3, c4, c5, c6⟩ := h.cells
  cases hw : s.ws with
  | nil =>
    rw [hw] at c5
    clear h c0 c1 c2 c3 c4 c6 hw hin
    go_enter Try.func17, Try.ntmps17
    go_wp2
    go_ret
    exact ⟨rfl, 0, rfl⟩
  | cons x l =>
    obtain ⟨g, o, rfl, hx⟩ := h.first hw
    rw [hw] at c5
    have h0 : (((x :: l).length : Int) == 0) = false := by rw [beq_eq_false_iff_ne]; simp only [List.length_cons]; omega
    have h1 : (0 : Int) < ((x :: l).length : Int) := by simp only [List.length_cons]; omega
    have hwr : IntKind.i64.wrap (s.opn - x.ep) = s.opn - x.ep := i64_in_ _ (hin x (by rw [hw]; exact List.mem_cons_self ..))
    clear h c0 c1 c3 c4 c6 hw hin
    generalize (x :: l).length = N at *
    go_enter Try.func17, Try.ntmps17
    go_wp2
    go_quiet (fail)
    go_wp2
    go_ret
    exact ⟨rfl, _, rfl⟩
end
end Go.Proofs.Ytagkhhoimgighaa
