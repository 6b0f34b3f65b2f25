/- The bucket of tokens: walk.NewPace, Tick, Take, Level and the document's, each by contract. -/
import Derived.Test.YtmjlijhiclbhfaaProg
import Derived.Test.YtmjlijhiclbhfaaMem
import Derived.WalkKit
import Derived.KernelRfl
import Derived.Lib.Hide
import Derived.Deep.QuietTactic
import Derived.BigQuiet
import Derived.StillTailTactics
import Derived.Outline
namespace Go.Proofs.Ytmjlijhiclbhfaa
open Go.RowKit
attribute [local go_sem] min_two_

abbrev pc (a b c : Int) : Array Value := #[.int .i64 a, .int .i64 b, .int .i64 c]
/-- rate and burst are good -/
def paceOk (r b : Int) : Bool := decide (1 ≤ r ∧ r ≤ 1024 ∧ 1 ≤ b ∧ b ≤ 1024)

theorem newPace_bad (r b : Int) (w : World) (h : paceOk r b = false) :
    Calls Try.prog 5 #[.int .i64 r, .int .i64 b] w fun e w' => e = .returned (.tuple #[.pointer none, .int .i64 1]) ∧ w = w' := by
  have h : ¬ (1 ≤ r ∧ r ≤ 1024 ∧ 1 ≤ b ∧ b ≤ 1024) := of_decide_eq_false h
  by_cases h1 : r < 1
  · go_enter Try.func5, Try.ntmps5
    go_wp2
    go_ret2
    exact ⟨rfl, rfl⟩
  by_cases h2 : 1024 < r
  · go_enter Try.func5, Try.ntmps5
    go_wp2
    go_ret2
    exact ⟨rfl, rfl⟩
  by_cases h3 : b < 1
  · go_enter Try.func5, Try.ntmps5
    go_wp2
    go_ret2
    exact ⟨rfl, rfl⟩
  have h4 : 1024 < b := by omega
  clear h
  go_enter Try.func5, Try.ntmps5
  go_wp2
  go_ret2
  exact ⟨rfl, rfl⟩
theorem newPace_ok (r b : Int) (w : World) (h : paceOk r b = true) :
    Calls Try.prog 5 #[.int .i64 r, .int .i64 b] w fun e w' => e = .returned (.tuple #[.pointer (some ⟨w.heap.size, 0, none⟩), .int .i64 0]) ∧ w' = w.alloc (.cells (pc r b b) 38) := by
  have h : (1 ≤ r ∧ r ≤ 1024 ∧ 1 ≤ b ∧ b ≤ 1024) := of_decide_eq_true h
  obtain ⟨h1, h2, h3, h4⟩ := h
  go_enter Try.func5, Try.ntmps5
  go_wp2
  go_ret2
  exact ⟨rfl, rfl⟩
theorem refNewPace_bad (r b : Int) (w : World) (h : paceOk r b = false) :
    Calls Try.prog 6 #[.int .i64 r, .int .i64 b] w fun e w' => e = .returned (.tuple #[.pointer none, .int .i64 1]) ∧ w = w' := by
  have h : ¬ (1 ≤ r ∧ r ≤ 1024 ∧ 1 ≤ b ∧ b ≤ 1024) := of_decide_eq_false h
  by_cases h1 : r < 1
  · go_enter Try.func6, Try.ntmps6
    go_wp2
    go_ret2
    exact ⟨rfl, rfl⟩
  by_cases h2 : 1024 < r
  · go_enter Try.func6, Try.ntmps6
    go_wp2
    go_ret2
    exact ⟨rfl, rfl⟩
  by_cases h3 : b < 1
  · go_enter Try.func6, Try.ntmps6
    go_wp2
    go_ret2
    exact ⟨rfl, rfl⟩
  have h4 : 1024 < b := by omega
  clear h
  go_enter Try.func6, Try.ntmps6
  go_wp2
  go_ret2
  exact ⟨rfl, rfl⟩
theorem refNewPace_ok (r b : Int) (w : World) (h : paceOk r b = true) :
    Calls Try.prog 6 #[.int .i64 r, .int .i64 b] w fun e w' => e = .returned (.tuple #[.pointer (some ⟨w.heap.size, 0, none⟩), .int .i64 0]) ∧ w' = w.alloc (.cells (pc r b b) 40) := by
  have h : (1 ≤ r ∧ r ≤ 1024 ∧ 1 ≤ b ∧ b ≤ 1024) := of_decide_eq_true h
  obtain ⟨h1, h2, h3, h4⟩ := h
  go_enter Try.func6, Try.ntmps6
  go_wp2
  go_ret2
  exact ⟨rfl, rfl⟩

/-- what a call on a bucket leaves -/
def PcPost (w : World) (g t : Nat) (cs : Array Value) (v : Value) (e : Ending) (w' : World) : Prop := e = .returned v ∧ Blk w' g t cs ∧ w.grownBy w' (some g)
set_option maxHeartbeats 1000000 in
theorem tick_any (g : Nat) (r b l : Int) (w : World) (h : Blk w g 38 (pc r b l)) (h1 : 0 ≤ l) (h2 : l ≤ 1024) (h3 : 1 ≤ r) (h4 : r ≤ 1024) :
    Calls Try.prog 8 #[.pointer (some ⟨g, 0, none⟩)] w (PcPost w g 38 (pc r b (min b (l + r))) (.tuple #[])) := by
  have c0 : w.cell? ⟨g, 0, none⟩ = some (.int .i64 r) := h.cell 0
  have c1 : w.cell? ⟨g, 1, none⟩ = some (.int .i64 b) := h.cell 1
  have c2 : w.cell? ⟨g, 2, none⟩ = some (.int .i64 l) := h.cell 2
  have f2 := h.frozen 2
  have hs : IntKind.i64.wrap (l + r) = l + r := i64_in_ _ (by omega)
  go_enter Try.func8, Try.ntmps8
  go_wp2
  go_still_tail 17, (by kernel_rfl)
  go_wp2
  go_end0
  exact ⟨rfl, (h.set_ 2 _).drew, only_drewN (only_setCell (only_refl _ _) (.inl rfl) _) 1⟩
set_option maxHeartbeats 1000000 in
theorem refTick_any (g : Nat) (r b l : Int) (w : World) (h : Blk w g 40 (pc r b l)) (h1 : 0 ≤ l) (h2 : l ≤ 1024) (h3 : 1 ≤ r) (h4 : r ≤ 1024) :
    Calls Try.prog 9 #[.pointer (some ⟨g, 0, none⟩)] w (PcPost w g 40 (pc r b (min b (l + r))) (.tuple #[])) := by
  have c0 : w.cell? ⟨g, 0, none⟩ = some (.int .i64 r) := h.cell 0
  have c1 : w.cell? ⟨g, 1, none⟩ = some (.int .i64 b) := h.cell 1
  have c2 : w.cell? ⟨g, 2, none⟩ = some (.int .i64 l) := h.cell 2
  have f2 := h.frozen 2
  have hs : IntKind.i64.wrap (l + r) = l + r := i64_in_ _ (by omega)
  by_cases hb : b < l + r
  · have hm : min b (l + r) = b := by omega
    rw [hm]
    clear hm
    go_enter Try.func9, Try.ntmps9
    go_wp2
    go_still_tail 12, (by kernel_rfl)
    go_wp2
    go_quiet (fail)
    go_wp2
    go_end0
    exact ⟨rfl, ((h.set_ 2 _).drewN _).set_ 2 _, only_setCell (only_drewN (only_setCell (only_refl _ _) (.inl rfl) _) _) (.inl rfl) _⟩
  · have hm : min b (l + r) = l + r := by omega
    rw [hm]
    clear hm
    go_enter Try.func9, Try.ntmps9
    go_wp2
    go_still_tail 12, (by kernel_rfl)
    go_wp2
    go_quiet (fail)
    go_wp2
    go_end0
    exact ⟨rfl, ((h.set_ 2 _).drewN 1).drewN _, only_drewN (only_drewN (only_setCell (p := ⟨g, 2, none⟩) (only_refl _ _) (.inl rfl) _) 1) _⟩

theorem pTake_no (g : Nat) (r b l n : Int) (w : World) (h : Blk w g 38 (pc r b l)) (hn : n < 1 ∨ l < n) :
    Calls Try.prog 10 #[.pointer (some ⟨g, 0, none⟩), .int .i64 n] w fun e w' => e = .returned (.bool false) ∧ w = w' := by
  have c2 : w.cell? ⟨g, 2, none⟩ = some (.int .i64 l) := h.cell 2
  by_cases h1 : n < 1
  · clear hn
    go_enter Try.func10, Try.ntmps10
    go_wp2
    go_ret
    exact ⟨rfl, rfl⟩
  · have h2 : l < n := by omega
    clear hn
    go_enter Try.func10, Try.ntmps10
    go_wp2
    go_ret
    exact ⟨rfl, rfl⟩
theorem pTake_yes (g : Nat) (r b l n : Int) (w : World) (h : Blk w g 38 (pc r b l)) (h1 : 1 ≤ n) (h2 : n ≤ l) (h3 : l ≤ 1024) :
    Calls Try.prog 10 #[.pointer (some ⟨g, 0, none⟩), .int .i64 n] w (PcPost w g 38 (pc r b (l - n)) (.bool true)) := by
  have c2 : w.cell? ⟨g, 2, none⟩ = some (.int .i64 l) := h.cell 2
  have f2 := h.frozen 2
  go_enter Try.func10, Try.ntmps10
  go_wp2
  go_ret
  exact ⟨rfl, h.set_ 2 _, only_setCell (only_refl _ _) (.inl rfl) _⟩

theorem qTake_no (g : Nat) (r b l n : Int) (w : World) (h : Blk w g 40 (pc r b l)) (hn : n < 1 ∨ l < n) :
    Calls Try.prog 11 #[.pointer (some ⟨g, 0, none⟩), .int .i64 n] w fun e w' => e = .returned (.bool false) ∧ w = w' := by
  have c2 : w.cell? ⟨g, 2, none⟩ = some (.int .i64 l) := h.cell 2
  by_cases h1 : n < 1
  · clear hn
    go_enter Try.func11, Try.ntmps11
    go_wp2
    go_ret
    exact ⟨rfl, rfl⟩
  · have h2 : l < n := by omega
    clear hn
    go_enter Try.func11, Try.ntmps11
    go_wp2
    go_ret
    exact ⟨rfl, rfl⟩
theorem qTake_yes (g : Nat) (r b l n : Int) (w : World) (h : Blk w g 40 (pc r b l)) (h1 : 1 ≤ n) (h2 : n ≤ l) (h3 : l ≤ 1024) :
    Calls Try.prog 11 #[.pointer (some ⟨g, 0, none⟩), .int .i64 n] w (PcPost w g 40 (pc r b (l - n)) (.bool true)) := by
  have c2 : w.cell? ⟨g, 2, none⟩ = some (.int .i64 l) := h.cell 2
  have f2 := h.frozen 2
  go_enter Try.func11, Try.ntmps11
  go_wp2
  go_ret
  exact ⟨rfl, h.set_ 2 _, only_setCell (only_refl _ _) (.inl rfl) _⟩

theorem pLevel_any (g : Nat) (r b l : Int) (w : World) (h : Blk w g 38 (pc r b l)) :
    Calls Try.prog 12 #[.pointer (some ⟨g, 0, none⟩)] w fun e w' => e = .returned (.int .i64 l) ∧ w = w' := by
  have c2 : w.cell? ⟨g, 2, none⟩ = some (.int .i64 l) := h.cell 2
  go_enter Try.func12, Try.ntmps12
  go_wp2
  go_ret
  exact ⟨rfl, rfl⟩

theorem qLevel_any (g : Nat) (r b l : Int) (w : World) (h : Blk w g 40 (pc r b l)) :
    Calls Try.prog 13 #[.pointer (some ⟨g, 0, none⟩)] w fun e w' => e = .returned (.int .i64 l) ∧ w = w' := by
  have c2 : w.cell? ⟨g, 2, none⟩ = some (.int .i64 l) := h.cell 2
  go_enter Try.func13, Try.ntmps13
  go_wp2
  go_ret
  exact ⟨rfl, rfl⟩

theorem num_any (x : Int) (w : World) : Calls Try.prog 7 #[.int .i64 x] w fun e w' => e = .returned (.int .i64 x) ∧ w = w' := by
  go_enter Try.func7, Try.ntmps7
  go_wp2
  go_ret
  exact ⟨rfl, rfl⟩

theorem newPace_at (r b : Int) (w : World) (h : paceOk r b = true) :
    Calls Try.prog 5 #[.int .i64 r, .int .i64 b] w fun e w' => e = .returned (.tuple #[.pointer (some ⟨w.heap.size, 0, none⟩), .int .i64 0]) ∧ Blk w' w.heap.size 38 (pc r b b) ∧ Below w.heap.size w w' :=
  (newPace_ok r b w h).mono fun _ _ ⟨he, hw⟩ => by subst hw; exact ⟨he, Blk.new w _ _, (Below.refl _ w).alloc (Nat.le_refl _) _⟩
end Go.Proofs.Ytmjlijhiclbhfaa
