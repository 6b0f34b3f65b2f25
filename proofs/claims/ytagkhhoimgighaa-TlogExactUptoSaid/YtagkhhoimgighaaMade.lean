/- The statements' helpers of layer 10: good, num, sameEntry, made, by contract. -/
import Derived.Test.YtagkhhoimgighaaTlog7
namespace Go.Proofs.Ytagkhhoimgighaa
open Go.RowKit

theorem num_any (n : Int) (w : World) : Calls Try.prog 14 #[.int .i64 n] w fun e w' => e = .returned (.int .i64 n) ∧ w = w' := by
  go_enter Try.func14, Try.ntmps14
  go_wp2
  go_ret
  exact ⟨rfl, rfl⟩
set_option maxRecDepth 20000 in
theorem good_any (limit width : Int) (w : World) : Calls Try.prog 10 #[.int .i64 limit, .int .i64 width] w fun e w' => (goodB limit width ∧ e = .returned (.bool true) ∨ ¬ goodB limit width ∧ e = .returned (.bool false)) ∧ w = w' := by
  by_cases h : goodB limit width
  · have H := Lib.hid h
    obtain ⟨h1, h2, h3, h4⟩ := h
    go_enter Try.func10, Try.ntmps10
    go_wp2
    go_ret
    exact ⟨.inl ⟨H.out, rfl⟩, rfl⟩
  · have H := Lib.hid h
    have h2 : limit < 1 ∨ (1 ≤ limit ∧ 1024 < limit) ∨ (1 ≤ limit ∧ limit ≤ 1024 ∧ width < 1) ∨ (1 ≤ limit ∧ limit ≤ 1024 ∧ 1 ≤ width ∧ 64 < width) := by unfold goodB at h; omega
    clear h
    have h5 : limit < 1 ∨ (1 ≤ limit ∧ ¬ limit ≤ 1024) ∨ (1 ≤ limit ∧ limit ≤ 1024 ∧ ¬ 1 ≤ width) ∨ (1 ≤ limit ∧ limit ≤ 1024 ∧ 1 ≤ width ∧ ¬ width ≤ 64) := by omega
    clear h2
    rcases h5 with h1 | ⟨h1, h2⟩ | ⟨h1, h2, h3⟩ | ⟨h1, h2, h3, h4⟩
    all_goals
      first | (have n4 : decide (width ≤ 64) = false := decide_eq_false h4) | skip
      first | (have n2 : decide (limit ≤ 1024) = false := decide_eq_false h2) | skip
      first | (have n3 : decide (1 ≤ width) = false := decide_eq_false h3) | skip
      go_enter Try.func10, Try.ntmps10
      go_wp2
      go_ret
      exact ⟨.inr ⟨H.out, rfl⟩, rfl⟩
/-- an entry as a value -/
abbrev entV (a b c : Int) : Value := .agg #[.int .i64 a, .int .i64 b, .int .i64 c]
set_option maxRecDepth 20000 in
set_option maxHeartbeats 1000000 in
theorem sameEntry_any (a b c x y z : Int) (w : World) : Calls Try.prog 27 #[entV a b c, entV x y z] w fun e w' => e = .returned (.bool (decide (a = x ∧ b = y ∧ c = z))) ∧ Below w.heap.size w w' := by
  have kk : Below w.heap.size w ((w.alloc (.cells #[.int .i64 a, .int .i64 b, .int .i64 c] 36)).alloc (.cells #[.int .i64 x, .int .i64 y, .int .i64 z] 36)) := ((Below.refl _ w).alloc (Nat.le_refl _) _).alloc (by simp) _
  by_cases h1 : a = x
  · by_cases h2 : b = y
    · by_cases h3 : c = z
      · subst h1 h2 h3
        go_enter Try.func27, Try.ntmps27
        go_wp2
        go_ret
        exact ⟨by simp, kk⟩
      · have n3 : (c == z) = false := by rw [beq_eq_false_iff_ne]; exact h3
        have Hd := Lib.hid h3
        subst h1 h2
        clear h3
        go_enter Try.func27, Try.ntmps27
        go_wp2
        go_ret
        exact ⟨ret_bool (decide_eq_false fun h => Hd.out h.2.2).symm, kk⟩
    · have n2 : (b == y) = false := by rw [beq_eq_false_iff_ne]; exact h2
      have Hd := Lib.hid h2
      subst h1
      clear h2
      go_enter Try.func27, Try.ntmps27
      go_wp2
      go_ret
      exact ⟨ret_bool (decide_eq_false fun h => Hd.out h.2.1).symm, kk⟩
  · have n1 : (a == x) = false := by rw [beq_eq_false_iff_ne]; exact h1
    have Hd := Lib.hid h1
    clear h1
    go_enter Try.func27, Try.ntmps27
    go_wp2
    go_ret
    exact ⟨ret_bool (decide_eq_false fun h => Hd.out h.1).symm, kk⟩
section
variable {w w' : World} {G : Nat} {s : LogS} {F F' : Nat → Nat → Prop}
theorem LogAt.fp_lt (h : LogAt w G s F) {k i : Nat} (hk : F k i) : k < w.heap.size := by
  obtain ⟨A, c, b, n, h, hF⟩ := h
  exact h.fp_lt ((hF k i).1 hk)
theorem addR_first (limit width : Int) (h : goodB limit width) : addR (newS limit width) 5 77 = 0 := by
  obtain ⟨h1, h2, h3, h4⟩ := h
  unfold addR newS findW
  simp
  omega
theorem newS_opn (l k : Int) : (newS l k).opn = 1 := rfl
theorem newS_filled (l k : Int) : (newS l k).filled = 0 := rfl
theorem newS_width (l k : Int) : (newS l k).width = k := rfl
theorem addS_opn (s : LogS) (i b : Int) (g : Nat) : (addS s i b g).opn = s.opn := rfl
theorem addS_filled (s : LogS) (i b : Int) (g : Nat) : (addS s i b g).filled = s.filled + 1 := rfl
theorem first_closed (limit width : Int) (g : Nat) : closeS (addS (newS limit width) 5 77 g) = ⟨limit, width, 2, 0, 1, [⟨5, 77, 1, 1, false, g⟩]⟩ := rfl
theorem first_bar (limit width : Int) (g : Nat) : barOk (closeS (addS (newS limit width) 5 77 g)) 1 1 := ⟨⟨5, 77, 1, 1, false, g⟩, [], rfl, by show (1 : Int) ≠ 2; omega, rfl, rfl⟩
theorem first_lead (limit width : Int) (g : Nat) : lead (closeS (addS (newS limit width) 5 77 g)).ws 1 = 1 := rfl
attribute [local go_sem] newS_opn newS_filled newS_width addS_opn addS_filled
set_option maxRecDepth 20000 in
set_option maxHeartbeats 4000000 in
theorem made_any (limit width : Int) (w : World) (hg : goodB limit width) : Calls Try.prog 11 #[.int .i64 limit, .int .i64 width] w fun e w' =>
    ∃ G F, e = .returned (.tuple #[.pointer (some ⟨G, 0, none⟩), .bool true]) ∧ LogAt w' G (newS limit width) F ∧ Below w.heap.size w w' ∧ (∀ k i, F k i → w.heap.size ≤ k) := by
  have hA := addR_first limit width hg
  have Hg := Lib.hid hg
  have HAd := Lib.hid hA
  have hd : decide ((0 : Int) + 1 = width) = (width == 1) := by rw [Bool.eq_iff_iff, decide_eq_true_iff, beq_iff_eq]; omega
  have hd1 : decide ((1 : Int) = width) = (width == 1) := by rw [Bool.eq_iff_iff, decide_eq_true_iff, beq_iff_eq]; omega
  obtain ⟨b1, b2, b3, b4⟩ := hg
  clear hA
  go_enter Try.func11, Try.ntmps11
  go_wp2_with (first
    | (go_at_call 31; refine (new_yes limit width w Hg.out).mono ?_; rintro e1 w1 ⟨G1, F1, rfl, l1, B1, f1⟩)
    | (go_at_call 31; refine (new_yes limit width w1 Hg.out).mono ?_; rintro e2 w2 ⟨G2, F2, rfl, l2, B2, f2⟩)
    | (go_at_call 14; refine (num_any _ _).mono ?_; rintro e8 w8 ⟨rfl, rfl⟩)
    | (go_at_call 12; refine (add_yes 5 77 l2 (by decide) HAd.out (by simp [newS]) (by simp [newS]; omega) (by simp [newS]; omega) (by simp [newS])).mono ?_; rintro e3 w3 ⟨rfl, g3, F3, l3, k3, f3⟩)
    | (go_at_call 15; refine (close_any l3 (by simp [addS, newS])).mono ?_; rintro e4 w4 ⟨rfl, l4, k4⟩)
    | (go_at_call 18; refine (barrier_any 1 1 l4 (first_bar _ _ _)).mono ?_; rw [first_lead]; rintro e5 w5 ⟨A5, F5, rfl, l5, k5, f5, o5⟩; obtain ⟨g5, q5, rfl, _, z5⟩ := o5.1.cell (k := 0) rfl; have z50 : w5.cell? ⟨g5, q5, none⟩ = some (.int .i64 5) := (z5 0 _ rfl).1; have z51 : w5.cell? ⟨g5, q5 + 1, none⟩ = some (.int .i64 77) := (z5 1 _ rfl).1; have z52 : w5.cell? ⟨g5, q5 + 2, none⟩ = some (.int .i64 1) := (z5 2 _ rfl).1)
    | (go_at_call 27; refine (sameEntry_any 5 77 1 5 77 1 _).mono ?_; rintro e6 w6 ⟨rfl, k6⟩))
  go_ret2
  have t2 : Chg (fun k _ => w1.heap.size ≤ k) w1 w2 := Chg.of_below _ B2
  have h12 := B2.size
  have t3 := t2.trans k3 fun k i _ h => f2 k i h
  have f3' : ∀ k i, F3 k i → w1.heap.size ≤ k := fun k i h => by
    rcases f3 k i h with h | h
    · exact f2 k i h
    · omega
  have t4 := t3.trans k4 fun k i _ h => f3' k i h
  have t5 := t4.trans k5 fun k i _ h => f3' k i h
  have t6 := t5.trans (Chg.of_below (fun k _ => w1.heap.size ≤ k) k6) fun _ _ _ h => h
  refine ⟨G1, F1, rfl, l1.chg t6 fun k i hk hle => absurd (l1.fp_lt hk) (Nat.not_lt.2 hle), ?_, f1⟩
  exact B1.trans ((t6.below (Nat.le_refl _) fun k i hk h => absurd hk (Nat.not_lt.2 h)).mono B1.size)
end
end Go.Proofs.Ytagkhhoimgighaa
