/- BioNew: for every three numbers, without a condition: bio.New refuses just those that the document refuses, and else gives a Queue. -/
import Derived.Test.YtmhbemmlkbgmfaaProg
import Derived.Test.YtmhbemmlkbgmfaaMem
import Derived.WalkKit
import Derived.KernelRfl
import Derived.Lib.Hide
import Derived.Outline
namespace Go.Proofs.Ytmhbemmlkbgmfaa
open Go.RowKit

/-- a pointer, and no error -/
def Got (w : World) (e : Ending) (w' : World) : Prop := ∃ p : Addr, e = .returned (.tuple #[.pointer (some p), .int .i64 0]) ∧ Below w.heap.size w w'
/-- the numbers are good -/
def bioOk (b s d : Int) : Bool := decide (1 ≤ b ∧ b ≤ 4096 ∧ 1 ≤ d ∧ d ≤ 256 ∧ (s = 128 ∨ s = 256 ∨ s = 512 ∨ s = 1024))

set_option maxHeartbeats 2000000 in
theorem bioNew_bad (b s d : Int) (w : World) (h : bioOk b s d = false) :
    Calls Try.prog 9 #[.int .i64 b, .int .i64 s, .int .i64 d] w fun e w' => e = .returned (.tuple #[.pointer none, .int .i64 1]) ∧ w = w' := by
  have h : ¬ (1 ≤ b ∧ b ≤ 4096 ∧ 1 ≤ d ∧ d ≤ 256 ∧ (s = 128 ∨ s = 256 ∨ s = 512 ∨ s = 1024)) := of_decide_eq_false h
  have H := Lib.hid h
  clear h
  by_cases h1 : b < 1
  · go_enter Try.func9, Try.ntmps9
    go_wp2
    go_ret2
    exact ⟨rfl, rfl⟩
  by_cases h2 : 4096 < b
  · go_enter Try.func9, Try.ntmps9
    go_wp2
    go_ret2
    exact ⟨rfl, rfl⟩
  by_cases h3 : d < 1
  · go_enter Try.func9, Try.ntmps9
    go_wp2
    go_ret2
    exact ⟨rfl, rfl⟩
  by_cases h4 : 256 < d
  · go_enter Try.func9, Try.ntmps9
    go_wp2
    go_ret2
    exact ⟨rfl, rfl⟩
  have h5 : (s == 128) = false := by rw [beq_eq_false_iff_ne]; intro e; have := H.out; omega
  have h6 : (s == 256) = false := by rw [beq_eq_false_iff_ne]; intro e; have := H.out; omega
  have h7 : (s == 512) = false := by rw [beq_eq_false_iff_ne]; intro e; have := H.out; omega
  have h8 : (s == 1024) = false := by rw [beq_eq_false_iff_ne]; intro e; have := H.out; omega
  go_enter Try.func9, Try.ntmps9
  go_wp2
  go_ret2
  exact ⟨rfl, rfl⟩

set_option maxHeartbeats 2000000 in
theorem bioNew_good (b s d : Int) (w : World) (h : bioOk b s d = true) :
    Calls Try.prog 9 #[.int .i64 b, .int .i64 s, .int .i64 d] w (Got w) := by
  have h : (1 ≤ b ∧ b ≤ 4096 ∧ 1 ≤ d ∧ d ≤ 256 ∧ (s = 128 ∨ s = 256 ∨ s = 512 ∨ s = 1024)) := of_decide_eq_true h
  obtain ⟨h1, h2, h3, h4, h5⟩ := h
  have hmm := @run_makeMap Try.prog
  rcases h5 with rfl | rfl | rfl | rfl
  all_goals
    go_enter Try.func9, Try.ntmps9
    go_wp2
    go_ret2
    exact ⟨_, rfl, ((((Below.refl _ w).alloc (Nat.le_refl _) _).alloc (by simp) _).alloc (by simp; omega) _).alloc (by simp; omega) _ |>.alloc (by simp; omega) _⟩

set_option maxHeartbeats 2000000 in
theorem refBioNew_bad (b s d : Int) (w : World) (h : bioOk b s d = false) :
    Calls Try.prog 10 #[.int .i64 b, .int .i64 s, .int .i64 d] w fun e w' => e = .returned (.tuple #[.pointer none, .int .i64 1]) ∧ w = w' := by
  have h : ¬ (1 ≤ b ∧ b ≤ 4096 ∧ 1 ≤ d ∧ d ≤ 256 ∧ (s = 128 ∨ s = 256 ∨ s = 512 ∨ s = 1024)) := of_decide_eq_false h
  have H := Lib.hid h
  clear h
  by_cases hs : s = 128 ∨ s = 256 ∨ s = 512 ∨ s = 1024
  · by_cases h1 : b < 1
    · rcases hs with rfl | rfl | rfl | rfl <;> (clear H; go_enter Try.func10, Try.ntmps10; go_wp2; go_ret2; exact ⟨rfl, rfl⟩)
    by_cases h2 : 4096 < b
    · rcases hs with rfl | rfl | rfl | rfl <;> (clear H; go_enter Try.func10, Try.ntmps10; go_wp2; go_ret2; exact ⟨rfl, rfl⟩)
    by_cases h3 : d < 1
    · rcases hs with rfl | rfl | rfl | rfl <;> (clear H; go_enter Try.func10, Try.ntmps10; go_wp2; go_ret2; exact ⟨rfl, rfl⟩)
    have h4 : 256 < d := by have := H.out; omega
    rcases hs with rfl | rfl | rfl | rfl <;> (clear H; go_enter Try.func10, Try.ntmps10; go_wp2; go_ret2; exact ⟨rfl, rfl⟩)
  · have h5 : (s == 128) = false := by rw [beq_eq_false_iff_ne]; intro e; omega
    have h6 : (s == 256) = false := by rw [beq_eq_false_iff_ne]; intro e; omega
    have h7 : (s == 512) = false := by rw [beq_eq_false_iff_ne]; intro e; omega
    have h8 : (s == 1024) = false := by rw [beq_eq_false_iff_ne]; intro e; omega
    clear hs H
    by_cases h1 : b < 1
    · go_enter Try.func10, Try.ntmps10
      go_wp2
      go_ret2
      exact ⟨rfl, rfl⟩
    by_cases h2 : 4096 < b
    · go_enter Try.func10, Try.ntmps10
      go_wp2
      go_ret2
      exact ⟨rfl, rfl⟩
    go_enter Try.func10, Try.ntmps10
    go_wp2
    go_ret2
    exact ⟨rfl, rfl⟩

set_option maxHeartbeats 2000000 in
theorem refBioNew_good (b s d : Int) (w : World) (h : bioOk b s d = true) :
    Calls Try.prog 10 #[.int .i64 b, .int .i64 s, .int .i64 d] w (Got w) := by
  have h : (1 ≤ b ∧ b ≤ 4096 ∧ 1 ≤ d ∧ d ≤ 256 ∧ (s = 128 ∨ s = 256 ∨ s = 512 ∨ s = 1024)) := of_decide_eq_true h
  obtain ⟨h1, h2, h3, h4, h5⟩ := h
  rcases h5 with rfl | rfl | rfl | rfl
  all_goals
    go_enter Try.func10, Try.ntmps10
    go_wp2
    go_ret2
    exact ⟨_, rfl, (Below.refl _ w).alloc (Nat.le_refl _) _⟩

/-- what the statement's 'made' answers -/
def Made2 (w : World) (e : Ending) (w' : World) : Prop := ∃ p : Addr, e = .returned (.tuple #[.pointer (some p), .bool true]) ∧ Below w.heap.size w w'
set_option maxHeartbeats 2000000 in
theorem bioMade_any (b s d : Int) (w : World) : Calls Try.prog 8 #[.agg #[.int .i64 b, .int .i64 s, .int .i64 d]] w (Made2 w) := by
  cases h : bioOk b s d with
  | false =>
    have H1 := Lib.hid (fun w => bioNew_bad b s d w h)
    have H2 := Lib.hid (fun w => refBioNew_bad b s d w h)
    clear h
    go_enter Try.func8, Try.ntmps8
    go_wp2_with (first | (go_at_call 9; refine (H1.out _).mono ?_; rintro e w' ⟨rfl, rfl⟩) | (go_at_call 10; refine (H2.out _).mono ?_; rintro e w' ⟨rfl, rfl⟩) | go_in)
    go_ret2
    exact ⟨_, rfl, ((Below.refl _ w).alloc (Nat.le_refl _) _).alloc (by simp) _⟩
  | true =>
    have H1 := Lib.hid (fun w => bioNew_good b s d w h)
    have H2 := Lib.hid (fun w => refBioNew_good b s d w h)
    clear h
    have B0 := (Below.refl w.heap.size w).alloc (Nat.le_refl _) (.cells #[.int .i64 b, .int .i64 s, .int .i64 d] 25)
    go_enter Try.func8, Try.ntmps8
    go_wp2_with fail
    refine (H1.out _).mono ?_
    rintro e w1 ⟨p, rfl, hB1⟩
    have c0 : w1.cell? ⟨w.heap.size, 0, none⟩ = some (.int .i64 b) := (hB1.cell (p := ⟨w.heap.size, 0, none⟩) (by simp)).trans (by simp)
    have c1 : w1.cell? ⟨w.heap.size, 1, none⟩ = some (.int .i64 s) := (hB1.cell (p := ⟨w.heap.size, 1, none⟩) (by simp)).trans (by simp)
    have c2 : w1.cell? ⟨w.heap.size, 2, none⟩ = some (.int .i64 d) := (hB1.cell (p := ⟨w.heap.size, 2, none⟩) (by simp)).trans (by simp)
    have B1 := B0.trans (hB1.mono (by simp))
    clear hB1
    go_wp2_with fail
    refine (H2.out _).mono ?_
    rintro e w2 ⟨p2, rfl, hB2⟩
    have B2 := B1.trans (hB2.mono B1.size)
    clear hB2
    go_wp2_with go_in
    go_ret2
    exact ⟨_, rfl, B2.alloc B2.size _⟩

theorem bioNewLaw_any (b s d : Int) (w : World) : Calls Try.prog 4 #[.agg #[.int .i64 b, .int .i64 s, .int .i64 d]] w fun e w' => e = .returned (.bool true) ∧ Below w.heap.size w w' := by
  have H := Lib.hid (fun w => bioMade_any b s d w)
  have B0 := (Below.refl w.heap.size w).alloc (Nat.le_refl _) (.cells #[.int .i64 b, .int .i64 s, .int .i64 d] 25)
  go_enter Try.func4, Try.ntmps4
  go_wp2_with fail
  refine (H.out _).mono ?_
  rintro e w1 ⟨p, rfl, hB1⟩
  have B1 := B0.trans (hB1.mono (by simp))
  clear hB1
  go_wp2
  go_ret
  exact ⟨rfl, B1⟩
end Go.Proofs.Ytmhbemmlkbgmfaa
