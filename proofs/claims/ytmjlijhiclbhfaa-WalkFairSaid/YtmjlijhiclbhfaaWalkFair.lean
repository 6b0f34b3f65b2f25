/- WalkFair: for every rate, burst and number of ticks, without a condition: a taker of single tokens gets what the bucket's law says, and no more. -/
import Derived.Test.YtmjlijhiclbhfaaPace
namespace Go.Proofs.Ytmjlijhiclbhfaa
open Go.RowKit

/-- what has been taken ahead of tick k, and what lies in the bucket then -/
def tkF (b low : Int) : Nat → Int
  | 0 => 0
  | k + 1 => b + k * low
def lvF (b low : Int) : Nat → Int
  | 0 => b
  | _ + 1 => low
theorem tk_lv (b low : Int) (k : Nat) : tkF b low k + lvF b low k = tkF b low (k + 1) := by
  cases k with
  | zero => simp [tkF, lvF]
  | succ k => simp only [tkF, lvF]; rw [show ((k + 1 : Nat) : Int) * low = k * low + low from by rw [Int.natCast_add, Int.add_mul]; simp]; omega
theorem lv_bd {b low : Int} (k : Nat) (h1 : 1 ≤ low) (h2 : low ≤ b) : 1 ≤ lvF b low k ∧ lvF b low k ≤ b := by cases k <;> simp only [lvF] <;> omega
theorem mul_bd {r : Int} (k : Nat) (hk : k ≤ 100) (h1 : 1 ≤ r) (h2 : r ≤ 1024) : 0 ≤ (k : Int) * r ∧ (k : Int) * r ≤ 102400 := by
  constructor
  · exact Int.mul_nonneg (by omega) (by omega)
  · exact Int.le_trans (Int.mul_le_mul (by omega : (k : Int) ≤ 100) h2 (by omega) (by omega)) (by omega)
theorem mul_mono {r low : Int} (k : Nat) (h : low ≤ r) : (k : Int) * low ≤ (k : Int) * r := Int.mul_le_mul_of_nonneg_left h (by omega)

set_option maxHeartbeats 2000000 in
theorem walkFair_no (r b n : Int) (w : World) (h : paceOk r b = false) :
    Calls Try.prog 4 #[.int .i64 r, .int .i64 b, .int .i64 n] w fun e w' => e = .returned (.bool true) ∧ Below w.heap.size w w' := by
  have h' : ¬ (1 ≤ r ∧ r ≤ 1024 ∧ 1 ≤ b ∧ b ≤ 1024) := of_decide_eq_false h
  have H := newPace_bad r b w h
  have H := Lib.hid H
  clear h
  by_cases h1 : r < 1
  · clear h'
    go_enter Try.func4, Try.ntmps4
    go_wp2_with (first | (go_at_call 5; refine H.out.mono ?_; rintro e w' ⟨rfl, rfl⟩) | (go_at_call 7; refine (num_any _ _).mono ?_; rintro e w' ⟨rfl, rfl⟩))
    go_ret
    exact ⟨rfl, Below.refl _ _⟩
  by_cases h2 : 1024 < r
  · clear h'
    go_enter Try.func4, Try.ntmps4
    go_wp2_with (first | (go_at_call 5; refine H.out.mono ?_; rintro e w' ⟨rfl, rfl⟩) | (go_at_call 7; refine (num_any _ _).mono ?_; rintro e w' ⟨rfl, rfl⟩))
    go_ret
    exact ⟨rfl, Below.refl _ _⟩
  by_cases h3 : b < 1
  · clear h'
    go_enter Try.func4, Try.ntmps4
    go_wp2_with (first | (go_at_call 5; refine H.out.mono ?_; rintro e w' ⟨rfl, rfl⟩) | (go_at_call 7; refine (num_any _ _).mono ?_; rintro e w' ⟨rfl, rfl⟩))
    go_ret
    exact ⟨rfl, Below.refl _ _⟩
  have h4 : 1024 < b := by omega
  clear h'
  go_enter Try.func4, Try.ntmps4
  go_wp2_with (first | (go_at_call 5; refine H.out.mono ?_; rintro e w' ⟨rfl, rfl⟩) | (go_at_call 7; refine (num_any _ _).mono ?_; rintro e w' ⟨rfl, rfl⟩))
  go_ret
  exact ⟨rfl, Below.refl _ _⟩

set_option maxRecDepth 20000 in
set_option maxHeartbeats 4000000 in
theorem walkFair_lt (r b n : Int) (w : World) (h : paceOk r b = true) (hn : (Lit.int .i64 n).wf = true) (hlt : b < r) :
    Calls Try.prog 4 #[.int .i64 r, .int .i64 b, .int .i64 n] w fun e w' => e = .returned (.bool true) ∧ Below w.heap.size w w' := by
  have h' : (1 ≤ r ∧ r ≤ 1024 ∧ 1 ≤ b ∧ b ≤ 1024) := of_decide_eq_true h
  obtain ⟨h1, h2, h3, h4⟩ := h'
  have hn2 : -9223372036854775808 ≤ n ∧ n ≤ 9223372036854775807 := by simpa [Lit.wf, IntKind.min, IntKind.max, IntKind.signed, IntKind.bits] using hn
  have Hn := Lib.hid hn2
  clear hn hn2
  have hlb : b ≤ b := by omega
  have hlr : b ≤ r := by omega
  have hl1 : 1 ≤ b := by omega
  have Hl := Lib.hid (And.intro hl1 (And.intro hlb hlr))
  clear hl1 hlb hlr
  have hmin : min b (0 + r) = b := by omega
  have Hmin := Lib.hid hmin
  clear hmin
  have H := Lib.hid h
  clear h
  go_enter Try.func4, Try.ntmps4
  go_wp2_with fail
  refine (newPace_at r b _ H.out).mono ?_
  rintro e w1 ⟨rfl, hb0, hB0⟩
  have hlev := pLevel_any _ _ _ _ _ hb0
  have Hlev := Lib.hid hlev
  clear hlev
  go_wp2_with (first | (go_at_call 12; refine Hlev.out.mono ?_; rintro e w' ⟨rfl, rfl⟩) | (go_at_call 7; refine (num_any _ _).mono ?_; rintro e w' ⟨rfl, rfl⟩))
  clear Hlev
  go_loopw [12, 13] (fun t k wr => ∃ K : Nat, K ≤ 101 ∧ k = .int .i64 K ∧ t = .int .i64 (tkF b b K) ∧ Blk wr w.heap.size 38 (pc r b (lvF b b K)) ∧ Below w.heap.size w wr) (fun _ k _ => 101 - (intOf k).toNat)
  case atStart => exact ⟨0, by omega, rfl, rfl, hb0, hB0⟩
  case round =>
    obtain ⟨K, hK, rfl, rfl, hb, hB⟩ := hrel
    clear hb0 hB0
    obtain ⟨wo, rfl⟩ : ∃ wo : World, wo = wr := ⟨_, rfl⟩
    by_cases hkn : (K : Int) ≤ n
    case neg =>
      go_wp2
      go_ret
      exact ⟨rfl, hB⟩
    by_cases hk1 : K ≤ 100
    case neg =>
      have hk2 : ¬ (K : Int) ≤ 100 := by omega
      go_wp2
      go_ret
      exact ⟨rfl, hB⟩
    have hk2 : (K : Int) ≤ 100 := by omega
    have hlv := lv_bd K Hl.out.1 Hl.out.2.1
    have htl := tk_lv b b K
    have hm1 := mul_bd K hk1 h1 h2
    have hm2 := mul_mono K Hl.out.2.2
    have hm3 := mul_bd K hk1 Hl.out.1 (by have := Hl.out; omega)
    have hT2 : tkF b b (K + 1) = b + (K : Int) * b := rfl
    have hT0 : 0 ≤ tkF b b K ∧ tkF b b K ≤ 200000 := by have := hm3; omega
    have Htl := Lib.hid htl
    have HT2 := Lib.hid hT2
    have hw1 : IntKind.i64.wrap ((K : Int) * r) = (K : Int) * r := i64_in_ _ (by omega)
    have hw2 : IntKind.i64.wrap ((K : Int) * b) = (K : Int) * b := i64_in_ _ (by omega)
    obtain ⟨hm1a, hm1b⟩ := hm1
    obtain ⟨hm3a, hm3b⟩ := hm3
    clear htl hT2
    generalize hLv : lvF b b K = L at *
    have HLv := Lib.hid hLv
    clear hLv
    generalize hTk : tkF b b K = T at *
    have HTk := Lib.hid hTk
    clear hTk
    obtain ⟨m, rfl⟩ : ∃ m : Nat, L = (m : Int) := ⟨L.toNat, by omega⟩
    have hlev := pLevel_any _ _ _ _ _ hb
    have Hlev := Lib.hid hlev
    clear hlev
    go_wp2_with (go_at_call 12; refine Hlev.out.mono ?_; rintro e w' ⟨rfl, rfl⟩)
    go_loopw [12, 15] (fun t i wq => ∃ j : Nat, j ≤ m ∧ i = .int .i64 j ∧ t = .int .i64 (T + j) ∧ Blk wq w.heap.size 38 (pc r b ((m : Int) - j)) ∧ Below w.heap.size w wq) (fun _ i _ => m - (intOf i).toNat)
    case atStart => exact ⟨0, by omega, rfl, by simp, by simpa using hb, hB⟩
    case round =>
      obtain ⟨j, hj, rfl, rfl, hbj, hBj⟩ := hrel
      have hj2 : (j : Int) ≤ 1024 := by omega
      by_cases hjm : j < m
      · have hty := pTake_yes _ _ _ _ 1 _ hbj (by omega) (by omega) (by omega)
        have Hty := Lib.hid hty
        clear hty
        go_wp2_with (go_at_call 10; refine Hty.out.mono ?_; rintro e w2 ⟨rfl, hb2, hg2⟩)
        go_roundw
        case rel => exact ⟨j + 1, by omega, by go_num, by go_num, by rw [show (m : Int) - ((j + 1 : Nat) : Int) = (m : Int) - j - 1 from by omega]; exact hb2, below_only hBj hg2 hBj.size (Nat.le_refl _)⟩
        case measure => simp [intOf]; omega
      · obtain rfl : j = m := by omega
        have hbj0 : Blk wr w.heap.size 38 (pc r b 0) := by simpa using hbj
        have htn := pTake_no _ _ _ _ 1 _ hbj0 (.inr (by omega))
        have Htn := Lib.hid htn
        have hlev := pLevel_any _ _ _ _ _ hbj0
        have Hlev := Lib.hid hlev
        have htk := tick_any _ _ _ _ _ hbj0 (by omega) (by omega) h1 h2
        have Htk := Lib.hid htk
        clear htn hlev htk hb hbj
        have hA : T + (j : Int) = b + (K : Int) * b := by have e1 := Htl.out; have e2 := HT2.out; have e3 := HTk.out; have e4 := HLv.out; omega
        have HA := Lib.hid hA
        have hA1 : T + (j : Int) ≤ b + (K : Int) * r := by omega
        have hA2 : b + (K : Int) * b ≤ T + (j : Int) := by omega
        clear hA
        go_wp2_with (first | (go_at_call 10; refine Htn.out.mono ?_; rintro e w' ⟨rfl, rfl⟩) | (go_at_call 12; refine Hlev.out.mono ?_; rintro e w' ⟨rfl, rfl⟩) | (go_at_call 8; refine Htk.out.mono ?_; rintro e w2 ⟨rfl, hb2, hg2⟩))
        go_roundw
        case rel =>
          refine ⟨K + 1, by omega, by go_num, by rw [HA.out]; rfl, ?_, below_only hBj hg2 hBj.size (Nat.le_refl _)⟩
          rw [Hmin.out] at hb2
          exact hb2
        case measure => simp [intOf]; omega
set_option maxRecDepth 20000 in
set_option maxHeartbeats 4000000 in
theorem walkFair_ge (r b n : Int) (w : World) (h : paceOk r b = true) (hn : (Lit.int .i64 n).wf = true) (hlt : r ≤ b) :
    Calls Try.prog 4 #[.int .i64 r, .int .i64 b, .int .i64 n] w fun e w' => e = .returned (.bool true) ∧ Below w.heap.size w w' := by
  have h' : (1 ≤ r ∧ r ≤ 1024 ∧ 1 ≤ b ∧ b ≤ 1024) := of_decide_eq_true h
  obtain ⟨h1, h2, h3, h4⟩ := h'
  have hn2 : -9223372036854775808 ≤ n ∧ n ≤ 9223372036854775807 := by simpa [Lit.wf, IntKind.min, IntKind.max, IntKind.signed, IntKind.bits] using hn
  have Hn := Lib.hid hn2
  clear hn hn2
  have hlb : r ≤ b := by omega
  have hlr : r ≤ r := by omega
  have hl1 : 1 ≤ r := by omega
  have Hl := Lib.hid (And.intro hl1 (And.intro hlb hlr))
  clear hl1 hlb hlr
  have hmin : min b (0 + r) = r := by omega
  have Hmin := Lib.hid hmin
  clear hmin
  have H := Lib.hid h
  clear h
  go_enter Try.func4, Try.ntmps4
  go_wp2_with fail
  refine (newPace_at r b _ H.out).mono ?_
  rintro e w1 ⟨rfl, hb0, hB0⟩
  have hlev := pLevel_any _ _ _ _ _ hb0
  have Hlev := Lib.hid hlev
  clear hlev
  go_wp2_with (first | (go_at_call 12; refine Hlev.out.mono ?_; rintro e w' ⟨rfl, rfl⟩) | (go_at_call 7; refine (num_any _ _).mono ?_; rintro e w' ⟨rfl, rfl⟩))
  clear Hlev
  go_loopw [12, 13] (fun t k wr => ∃ K : Nat, K ≤ 101 ∧ k = .int .i64 K ∧ t = .int .i64 (tkF b r K) ∧ Blk wr w.heap.size 38 (pc r b (lvF b r K)) ∧ Below w.heap.size w wr) (fun _ k _ => 101 - (intOf k).toNat)
  case atStart => exact ⟨0, by omega, rfl, rfl, hb0, hB0⟩
  case round =>
    obtain ⟨K, hK, rfl, rfl, hb, hB⟩ := hrel
    clear hb0 hB0
    obtain ⟨wo, rfl⟩ : ∃ wo : World, wo = wr := ⟨_, rfl⟩
    by_cases hkn : (K : Int) ≤ n
    case neg =>
      go_wp2
      go_ret
      exact ⟨rfl, hB⟩
    by_cases hk1 : K ≤ 100
    case neg =>
      have hk2 : ¬ (K : Int) ≤ 100 := by omega
      go_wp2
      go_ret
      exact ⟨rfl, hB⟩
    have hk2 : (K : Int) ≤ 100 := by omega
    have hlv := lv_bd K Hl.out.1 Hl.out.2.1
    have htl := tk_lv b r K
    have hm1 := mul_bd K hk1 h1 h2
    have hm2 := mul_mono K Hl.out.2.2
    have hm3 := mul_bd K hk1 Hl.out.1 (by have := Hl.out; omega)
    have hT2 : tkF b r (K + 1) = b + (K : Int) * r := rfl
    have hT0 : 0 ≤ tkF b r K ∧ tkF b r K ≤ 200000 := by have := hm3; omega
    have Htl := Lib.hid htl
    have HT2 := Lib.hid hT2
    have hw1 : IntKind.i64.wrap ((K : Int) * r) = (K : Int) * r := i64_in_ _ (by omega)
    have hw2 : IntKind.i64.wrap ((K : Int) * r) = (K : Int) * r := i64_in_ _ (by omega)
    obtain ⟨hm1a, hm1b⟩ := hm1
    obtain ⟨hm3a, hm3b⟩ := hm3
    clear htl hT2
    generalize hLv : lvF b r K = L at *
    have HLv := Lib.hid hLv
    clear hLv
    generalize hTk : tkF b r K = T at *
    have HTk := Lib.hid hTk
    clear hTk
    obtain ⟨m, rfl⟩ : ∃ m : Nat, L = (m : Int) := ⟨L.toNat, by omega⟩
    have hlev := pLevel_any _ _ _ _ _ hb
    have Hlev := Lib.hid hlev
    clear hlev
    go_wp2_with (go_at_call 12; refine Hlev.out.mono ?_; rintro e w' ⟨rfl, rfl⟩)
    go_loopw [12, 15] (fun t i wq => ∃ j : Nat, j ≤ m ∧ i = .int .i64 j ∧ t = .int .i64 (T + j) ∧ Blk wq w.heap.size 38 (pc r b ((m : Int) - j)) ∧ Below w.heap.size w wq) (fun _ i _ => m - (intOf i).toNat)
    case atStart => exact ⟨0, by omega, rfl, by simp, by simpa using hb, hB⟩
    case round =>
      obtain ⟨j, hj, rfl, rfl, hbj, hBj⟩ := hrel
      have hj2 : (j : Int) ≤ 1024 := by omega
      by_cases hjm : j < m
      · have hty := pTake_yes _ _ _ _ 1 _ hbj (by omega) (by omega) (by omega)
        have Hty := Lib.hid hty
        clear hty
        go_wp2_with (go_at_call 10; refine Hty.out.mono ?_; rintro e w2 ⟨rfl, hb2, hg2⟩)
        go_roundw
        case rel => exact ⟨j + 1, by omega, by go_num, by go_num, by rw [show (m : Int) - ((j + 1 : Nat) : Int) = (m : Int) - j - 1 from by omega]; exact hb2, below_only hBj hg2 hBj.size (Nat.le_refl _)⟩
        case measure => simp [intOf]; omega
      · obtain rfl : j = m := by omega
        have hbj0 : Blk wr w.heap.size 38 (pc r b 0) := by simpa using hbj
        have htn := pTake_no _ _ _ _ 1 _ hbj0 (.inr (by omega))
        have Htn := Lib.hid htn
        have hlev := pLevel_any _ _ _ _ _ hbj0
        have Hlev := Lib.hid hlev
        have htk := tick_any _ _ _ _ _ hbj0 (by omega) (by omega) h1 h2
        have Htk := Lib.hid htk
        clear htn hlev htk hb hbj
        have hA : T + (j : Int) = b + (K : Int) * r := by have e1 := Htl.out; have e2 := HT2.out; have e3 := HTk.out; have e4 := HLv.out; omega
        have HA := Lib.hid hA
        have hA1 : T + (j : Int) ≤ b + (K : Int) * r := by omega
        have hA2 : b + (K : Int) * r ≤ T + (j : Int) := by omega
        clear hA
        go_wp2_with (first | (go_at_call 10; refine Htn.out.mono ?_; rintro e w' ⟨rfl, rfl⟩) | (go_at_call 12; refine Hlev.out.mono ?_; rintro e w' ⟨rfl, rfl⟩) | (go_at_call 8; refine Htk.out.mono ?_; rintro e w2 ⟨rfl, hb2, hg2⟩))
        go_roundw
        case rel =>
          refine ⟨K + 1, by omega, by go_num, by rw [HA.out]; rfl, ?_, below_only hBj hg2 hBj.size (Nat.le_refl _)⟩
          rw [Hmin.out] at hb2
          exact hb2
        case measure => simp [intOf]; omega
theorem walkFair_any (r b n : Int) (w : World) (_ : (Lit.int .i64 r).wf = true) (_ : (Lit.int .i64 b).wf = true) (hn : (Lit.int .i64 n).wf = true) :
    Calls Try.prog 4 #[.int .i64 r, .int .i64 b, .int .i64 n] w fun e w' => e = .returned (.bool true) ∧ Below w.heap.size w w' := by
  cases h : paceOk r b with
  | false => exact walkFair_no r b n w h
  | true =>
    rcases Int.lt_or_le b r with hlt | hge
    · exact walkFair_lt r b n w h hn hlt
    · exact walkFair_ge r b n w h hn hge
end Go.Proofs.Ytmjlijhiclbhfaa
