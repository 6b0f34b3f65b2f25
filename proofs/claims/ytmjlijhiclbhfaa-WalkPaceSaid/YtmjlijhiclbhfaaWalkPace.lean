/- WalkPace: for every rate, burst and script, without a condition: every call on a bucket answers as the document says. -/
import Derived.Test.YtmjlijhiclbhfaaPace
import Derived.Deep.RegionHeld3
namespace Go.Proofs.Ytmjlijhiclbhfaa
open Go.RowKit

/-- one call on a bucket: its kind, its number -/
abbrev encOp2 (o : Int × Int) : List Value := [.int .i64 o.1, .int .i64 o.2]

set_option maxRecDepth 20000 in
set_option maxHeartbeats 4000000 in
theorem walkPace_no (r b : Int) (A : Option Addr) (c : Nat) (l : List (Int × Int)) (w : World) (h : paceOk r b = false) :
    Calls Try.prog 3 #[.int .i64 r, .int .i64 b, .slice A l.length c] w fun e w' => e = .returned (.bool true) ∧ Below w.heap.size w w' := by
  have H := Lib.hid (newPace_bad r b w h)
  have H2 := Lib.hid (refNewPace_bad r b w h)
  clear h
  go_enter Try.func3, Try.ntmps3
  go_wp2_with (first | (go_at_call 5; refine H.out.mono ?_; rintro e w' ⟨rfl, rfl⟩) | (go_at_call 6; refine H2.out.mono ?_; rintro e w' ⟨rfl, rfl⟩) | (go_at_call 7; refine (num_any _ _).mono ?_; rintro e w' ⟨rfl, rfl⟩))
  refine wp_loop_rounds 1 ?_
  rw [rounds_succ]
  go_wp2
  all_goals go_ret
  all_goals exact ⟨rfl, Below.refl _ _⟩

set_option maxRecDepth 20000 in
set_option maxHeartbeats 4000000 in
theorem walkPace_yes (r b : Int) (A : Option Addr) (c : Nat) (l : List (Int × Int)) (w : World) (h : paceOk r b = true) (hl : l.length ≤ 9223372036854775807) (hs : RdS encOp2 2 w A l) :
    Calls Try.prog 3 #[.int .i64 r, .int .i64 b, .slice A l.length c] w fun e w' => e = .returned (.bool true) ∧ Below w.heap.size w w' := by
  have h' : (1 ≤ r ∧ r ≤ 1024 ∧ 1 ≤ b ∧ b ≤ 1024) := of_decide_eq_true h
  obtain ⟨h1, h2, h3, h4⟩ := h'
  have H := Lib.hid (newPace_at r b w h)
  have H2 := Lib.hid (fun w => refNewPace_ok r b w h)
  clear h
  go_enter Try.func3, Try.ntmps3
  go_wp2_with fail
  refine H.out.mono ?_
  rintro e w1 ⟨rfl, hb1, hB1⟩
  go_wp2_with fail
  refine (H2.out w1).mono ?_
  rintro e w2 ⟨rfl, rfl⟩
  have hb2 := hb1.alloc (.cells (pc r b b) 40)
  have hq2 := Blk.new w1 40 (pc r b b)
  have hB2 := hB1.alloc hB1.size (.cells (pc r b b) 40)
  have hlt : w.heap.size < w1.heap.size := hb1.lt
  obtain ⟨G, hG⟩ : ∃ G, G = w1.heap.size := ⟨_, rfl⟩
  rw [← hG] at hq2 hlt ⊢
  generalize w1.alloc (.cells (pc r b b) 40) = w2 at *
  clear hb1 hB1 hG H H2
  go_wp2_with (go_at_call 7; refine (num_any _ _).mono ?_; rintro e w' ⟨rfl, rfl⟩)
  go_loopw [11] (fun i wr => ∃ k : Nat, k ≤ l.length ∧ i = .int .i64 k ∧ Below w.heap.size w wr ∧ ∃ lv : Int, 0 ≤ lv ∧ lv ≤ b ∧ Blk wr w.heap.size 38 (pc r b lv) ∧ Blk wr G 40 (pc r b lv)) (fun i _ => l.length - (intOf i).toNat)
  case atStart => exact ⟨0, by omega, rfl, hB2, b, by omega, by omega, hb2, hq2⟩
  case round =>
    obtain ⟨k, hk, rfl, hB, lv, hl0, hlb, hp, hq⟩ := hrel
    clear hB2 hb2 hq2
    by_cases hkl : k < l.length
    case neg =>
      obtain rfl : k = l.length := by omega
      have Hp := Lib.hid (pLevel_any _ _ _ _ _ hp)
      have Hq := Lib.hid (qLevel_any _ _ _ _ _ hq)
      go_wp2_with (first | (go_at_call 12; refine Hp.out.mono ?_; rintro e w' ⟨rfl, rfl⟩) | (go_at_call 13; refine Hq.out.mono ?_; rintro e w' ⟨rfl, rfl⟩))
      go_ret
      exact ⟨rfl, hB⟩
    obtain ⟨sb, so, ⟨kd, n⟩, rfl, hsb, hx, hc⟩ := hs.at_ hkl
    have c0 : wr.cell? ⟨sb, so + k * 2, none⟩ = some (.int .i64 kd) := (hB.cell (p := ⟨sb, so + k * 2, none⟩) hsb).trans (hc 0 _ rfl)
    have c1 : wr.cell? ⟨sb, so + k * 2 + 1, none⟩ = some (.int .i64 n) := (hB.cell (p := ⟨sb, so + k * 2 + 1, none⟩) hsb).trans (hc 1 _ rfl)
    clear hx hc
    by_cases hk0 : kd = 0
    · subst hk0
      have Hp := Lib.hid (tick_any _ _ _ _ _ hp hl0 (by omega) h1 h2)
      have Hq := Lib.hid (fun W (hW : Blk W _ _ _) => refTick_any G r b lv W hW hl0 (by omega) h1 h2)
      go_wp2_with (first | (go_at_call 8; refine Hp.out.mono ?_; rintro e w3 ⟨rfl, hb3, hg3⟩) | (go_at_call 9; refine (Hq.out _ (by exact hq.grown hg3 (by simp; omega))).mono ?_; rintro e w4 ⟨rfl, hb4, hg4⟩))
      go_roundw
      case rel => exact ⟨k + 1, by omega, by go_num, below_only (below_only hB hg3 hB.size (Nat.le_refl _)) hg4 (Nat.le_trans hB.size hg3.size) (by omega), min b (lv + r), by omega, by omega, hb3.grown hg4 (by simp; omega), hb4⟩
      case measure => simp [intOf]; omega
    by_cases hk1 : kd = 1
    · subst hk1
      by_cases hn : n < 1 ∨ lv < n
      · have Hp := Lib.hid (fun W (hW : Blk W _ _ _) => pTake_no w.heap.size r b lv n W hW hn)
        have Hq := Lib.hid (fun W (hW : Blk W _ _ _) => qTake_no G r b lv n W hW hn)
        clear hn
        go_wp2_with fail
        go_region_held3 (fun w' => w'.cell? ⟨sb, so + k * 2 + 1, none⟩ = some (.int .i64 n)) (first | go_keep) (first | (go_at_call 10; refine (Hp.out _ (by exact hp.drew)).mono ?_; rintro e w' ⟨rfl, rfl⟩) | (go_at_call 11; refine (Hq.out _ (by exact hq.drew)).mono ?_; rintro e w' ⟨rfl, rfl⟩))
        go_wp2
        go_roundw
        case rel => exact ⟨k + 1, by omega, by go_num, below_drewN hB 1, lv, hl0, hlb, hp.drew, hq.drew⟩
        case measure => simp [intOf]; omega
      · have hne1 : 1 ≤ n := by omega
        have hne2 : n ≤ lv := by omega
        have Hp := Lib.hid (fun W (hW : Blk W _ _ _) => pTake_yes w.heap.size r b lv n W hW (by omega) (by omega) (by omega))
        have Hq := Lib.hid (fun W (hW : Blk W _ _ _) => qTake_yes G r b lv n W hW (by omega) (by omega) (by omega))
        clear hn
        go_wp2_with fail
        go_region_held3 (fun w' => w'.cell? ⟨sb, so + k * 2 + 1, none⟩ = some (.int .i64 n)) (first | go_keep | exact hg2.cell (by assumption) (by simp; omega) | exact hg3.cell (by assumption) (by simp; omega)) (first | (go_at_call 10; refine (Hp.out _ (by exact hp.drew)).mono ?_; rintro e w2 ⟨rfl, hb2, hg2⟩) | (go_at_call 11; refine (Hq.out _ (by exact hq.drew.grown hg2 (by simp; omega))).mono ?_; rintro e w3 ⟨rfl, hb3, hg3⟩))
        go_wp2
        go_roundw
        case rel => exact ⟨k + 1, by omega, by go_num, below_only (below_only (below_drewN hB 1) hg2 hB.size (Nat.le_refl _)) hg3 (Nat.le_trans hB.size hg2.size) (by omega), lv - n, by omega, by omega, hb2.grown hg3 (by simp; omega), hb3⟩
        case measure => simp [intOf]; omega
    by_cases hk2 : kd = 2
    · subst hk2
      have Hp := Lib.hid (pLevel_any _ _ _ _ _ hp)
      have Hq := Lib.hid (qLevel_any _ _ _ _ _ hq)
      go_wp2_with (first | (go_at_call 12; refine Hp.out.mono ?_; rintro e w' ⟨rfl, rfl⟩) | (go_at_call 13; refine Hq.out.mono ?_; rintro e w' ⟨rfl, rfl⟩))
      go_roundw
      case rel => exact ⟨k + 1, by omega, by go_num, hB, lv, hl0, hlb, hp, hq⟩
      case measure => simp [intOf]; omega
    go_wp2
    go_roundw
    case rel => exact ⟨k + 1, by omega, by go_num, hB, lv, hl0, hlb, hp, hq⟩
    case measure => simp [intOf]; omega

theorem walkPace_any (r b : Int) (A : Option Addr) (c : Nat) (l : List (Int × Int)) (w : World) (_ : (Lit.int .i64 r).wf = true) (_ : (Lit.int .i64 b).wf = true) (hl : l.length ≤ 9223372036854775807) (hs : RdS encOp2 2 w A l) :
    Calls Try.prog 3 #[.int .i64 r, .int .i64 b, .slice A l.length c] w fun e w' => e = .returned (.bool true) ∧ Below w.heap.size w w' := by
  cases h : paceOk r b with
  | false => exact walkPace_no r b A c l w h
  | true => exact walkPace_yes r b A c l w h hl hs
end Go.Proofs.Ytmjlijhiclbhfaa
