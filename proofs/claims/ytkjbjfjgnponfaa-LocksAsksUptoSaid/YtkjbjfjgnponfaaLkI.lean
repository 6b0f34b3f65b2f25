/- The statements' helpers over package locks: New, may, table, num, same, call, by contract. -/
import Derived.Test.YtkjbjfjgnponfaaLkH
namespace Go.Proofs.Ytkjbjfjgnponfaa
open Go.RowKit
set_option linter.unusedSimpArgs false
abbrev nilS : Value := .slice none 0 0
theorem extTy : SlTy Try.prog 81 93 2 48 := SlTy.mk' (z := .agg #[nilS, nilS]) Try.underlying81 (by kernel_rfl) rfl
theorem mk_ext (n : Nat) (h : n ≤ 4096) (W : World) :
    (Instr.makeSlice 81 (.int .i64 (n : Int)) (.int .i64 (n : Int))).run Try.prog W = .ok (.slice (some ⟨W.heap.size, 0, none⟩) n n) (W.alloc (.cells ((List.range (2 * n)).map (fun _ => nilS)).toArray 93)) := by
  obtain ⟨i, z, hi, hz, hs, hb, hc⟩ := extTy.ex
  have e1 : (Try.prog.info? 93).map (·.zero) = some (some (.agg #[nilS, nilS])) := by kernel_rfl
  rw [hi] at e1
  have e2 : z = .agg #[nilS, nilS] := by
    simp only [Option.map_some, Option.some.injEq] at e1
    rw [hz] at e1
    exact Option.some.inj e1
  subst e2
  have h2 := run_make W 81 93 i (.agg #[nilS, nilS]) extTy.und hi hz .i64 .i64 (n : Int) (n : Int) (by omega) (by omega) (by rw [hb]; omega) (by omega)
  rw [h2]
  have e3 : madeCells (Value.agg #[nilS, nilS]).cells ((n : Int).toNat * i.size) = ((List.range (2 * n)).map (fun _ => nilS)).toArray := by
    rw [hs, Int.toNat_natCast, Nat.mul_comm n 2]
    apply Array.ext'
    apply List.ext_getElem?
    intro k
    simp [madeCells, Value.cells]
    by_cases hk : k < 2 * n
    · simp [hk]
      rcases (show k % 2 = 0 ∨ k % 2 = 1 by omega) with e | e <;> simp [e]
    · simp [hk]
  rw [e3]
  simp
def NewOk (w : World) (n : Nat) (most : Int) (e : Ending) (w' : World) : Prop := ∃ T E, e = .returned (.tuple #[.pointer (some ⟨T, 0, none⟩), .int .i64 0]) ∧ TabS w.heap.size w' T E n 0 most 0 (fun _ => nilS) (fun _ => []) ∧ Below w.heap.size w w'
theorem new_ok (n : Nat) (most : Int) (w : World) (h1 : 1 ≤ n) (h2 : n ≤ 4096) (h3 : 0 ≤ most) (h4 : most ≤ 512) :
    Calls Try.prog 30 #[.int .i64 (n : Int), .int .i64 most] w (NewOk w n most) := by
  have mk := mk_ext n h2
  have a1 : ¬ (n : Int) < 1 := by omega
  have a2 : ¬ (4096 : Int) < (n : Int) := by omega
  have a3 : ¬ most < 0 := by omega
  have a4 : ¬ (512 : Int) < most := by omega
  have tab : TabS w.heap.size ((w.alloc (.cells ((List.range (2 * n)).map (fun _ => nilS)).toArray 93)).alloc (.cells #[.int .i32 0, .int .u32 0, .slice (some ⟨w.heap.size, 0, none⟩) n n, .int .i64 most, .int .i64 0] 83)) (w.heap.size + 1) w.heap.size n 0 most 0 (fun _ => nilS) (fun _ => []) := by
    refine ⟨?_, (Blk.new w _ _).alloc _, fun i _ => OwnP.nil_ _ _, fun i j _ _ _ k e => (by cases e), by omega, Nat.le_refl _⟩
    have := Blk.new (w.alloc (.cells ((List.range (2 * n)).map (fun _ => nilS)).toArray 93)) 83 #[.int .i32 0, .int .u32 0, .slice (some ⟨w.heap.size, 0, none⟩) n n, .int .i64 most, .int .i64 0]
    rw [World.size_alloc] at this
    exact this
  have bel := ((Below.refl w.heap.size w).alloc (Nat.le_refl _) (.cells ((List.range (2 * n)).map (fun _ => nilS)).toArray 93)).alloc (by simp) (.cells #[.int .i32 0, .int .u32 0, .slice (some ⟨w.heap.size, 0, none⟩) n n, .int .i64 most, .int .i64 0] 83)
  have TB := Lib.hid tab
  have BL := Lib.hid bel
  clear tab bel
  go_enter Try.func30, Try.ntmps30
  go_wp2
  go_ret2
  exact ⟨w.heap.size + 1, w.heap.size, rfl, TB.out, BL.out⟩
theorem num_any (n : Int) (w : World) : Calls Try.prog 18 #[.int .i64 n] w fun e w' => e = .returned (.int .i64 n) ∧ w = w' := by
  go_enter Try.func18, Try.ntmps18
  go_wp2
  go_ret
  exact ⟨rfl, rfl⟩
def TabOk (w : World) (n : Nat) (most : Int) (e : Ending) (w' : World) : Prop := ∃ T E, e = .returned (.pointer (some ⟨T, 0, none⟩)) ∧ TabS w.heap.size w' T E n 0 most 0 (fun _ => nilS) (fun _ => []) ∧ Below w.heap.size w w'
theorem table_ok (n : Nat) (most : Int) (w : World) (h1 : 1 ≤ n) (h2 : n ≤ 4096) (h3 : 0 ≤ most) (h4 : most ≤ 512) :
    Calls Try.prog 14 #[.agg #[.int .i64 (n : Int), .int .i64 most]] w (TabOk w n most) := by
  have B0 := Lib.hid ((Below.refl w.heap.size w).alloc (Nat.le_refl _) (.cells #[.int .i64 (n : Int), .int .i64 most] 23))
  have g1 := Lib.hid (new_ok n most (w.alloc (.cells #[.int .i64 (n : Int), .int .i64 most] 23)) h1 h2 h3 h4)
  go_enter Try.func14, Try.ntmps14
  go_wp2_with fail
  refine g1.out.mono ?_
  rintro e w1 ⟨T, E, rfl, hT, hB⟩
  have HT := Lib.hid hT
  have HB := Lib.hid (B0.out.trans (hB.mono B0.out.size))
  clear g1 hT hB
  go_wp2_with fail
  refine (num_any 0 w1).mono ?_
  rintro e w' ⟨rfl, rfl⟩
  go_wp2
  go_ret
  have h5 := HT.out
  refine ⟨T, E, rfl, ⟨h5.tb, h5.ex, fun i hi => ?_, h5.sep, Nat.le_trans B0.out.size h5.hT, Nat.le_trans B0.out.size h5.hE⟩, HB.out⟩
  obtain ⟨A, c, e, hG, hA⟩ := h5.own i hi
  refine ⟨A, c, e, hG, ?_⟩
  rcases hA with hA | ⟨g, hA, hb⟩
  · exact .inl hA
  · exact .inr ⟨g, hA, Nat.le_trans B0.out.size hb⟩
theorem may_any (a b : Int) (w : World) :
    Calls Try.prog 13 #[.agg #[.int .i64 a, .int .i64 b]] w fun e w' => e = .returned (.bool (decide (1 ≤ a) && decide (a ≤ 4096) && decide (0 ≤ b) && decide (b ≤ 512))) ∧ Below w.heap.size w w' := by
  have B0 := (Below.refl w.heap.size w).alloc (Nat.le_refl _) (.cells #[.int .i64 a, .int .i64 b] 23)
  by_cases h1 : 1 ≤ a
  · by_cases h2 : a ≤ 4096
    · by_cases h3 : 0 ≤ b
      · go_enter Try.func13, Try.ntmps13
        go_wp2
        all_goals (go_ret; exact ⟨by simp [h1, h2, h3], B0⟩)
      · have h3' : b < 0 := by omega
        go_enter Try.func13, Try.ntmps13
        go_wp2
        all_goals (go_ret; exact ⟨by rw [decide_eq_false (show ¬ 0 ≤ b by omega)]; simp, B0⟩)
    · go_enter Try.func13, Try.ntmps13
      go_wp2
      all_goals (go_ret; exact ⟨by rw [decide_eq_false (show ¬ a ≤ 4096 by omega)]; simp, B0⟩)
  · go_enter Try.func13, Try.ntmps13
    go_wp2
    all_goals (go_ret; exact ⟨by rw [decide_eq_false (show ¬ 1 ≤ a by omega)]; simp, B0⟩)
theorem same_yes (A B : Option Addr) (c d n : Nat) (l : List Int) (w : World) (hl : l.length = n) (hn : n ≤ 9223372036854775807) (ha : Rd encI w A l) (hb : Rd encI w B l) :
    Calls Try.prog 19 #[.slice A n c, .slice B n d] w fun e w' => e = .returned (.bool true) ∧ Below w.heap.size w w' := by
  have HA := Lib.hid ha
  have HB := Lib.hid hb
  have HL := Lib.hid hl
  clear ha hb hl
  go_enter Try.func19, Try.ntmps19
  go_wp2_with fail
  go_loopw [5] (fun i wr => ∃ k : Nat, k ≤ n ∧ i = .int .i64 (k : Int) ∧ Below w.heap.size w wr) (fun i _ => n - (intOf i).toNat)
  case atStart => exact ⟨0, Nat.zero_le _, rfl, Below.refl _ _⟩
  case round =>
    obtain ⟨k, hk, rfl, hBw⟩ := hrel
    by_cases hlt : k < n
    · have hlt' : (k : Int) < (n : Int) := by omega
      obtain ⟨ad, x, hA, hx, hc⟩ := (HA.out.below hBw).at_ (show k < l.length by rw [HL.out]; exact hlt)
      obtain ⟨bd, y, hB, hy, hd⟩ := (HB.out.below hBw).at_ (show k < l.length by rw [HL.out]; exact hlt)
      obtain rfl : x = y := Option.some.inj (hx.symm.trans hy)
      subst hA
      subst hB
      have HBw := Lib.hid hBw
      clear hx hy hBw
      go_wp2_with fail
      go_quiet (fail)
      go_wp2
      go_roundw
      case rel => exact ⟨k + 1, by omega, by go_num, below_drewN HBw.out _⟩
      case measure => simp [intOf]; omega
    · obtain rfl : k = n := by omega
      go_wp2
      go_ret
      exact ⟨rfl, hBw⟩
end Go.Proofs.Ytkjbjfjgnponfaa
