/- Package bitmap: the iterator of All, by contract. -/
import Derived.Test.YtdhccjmokmdboaaDoorWkD
namespace Go.Proofs.YtdhccjmokmdboaaDoor
open Go.RowKit
set_option linter.unusedVariables false
set_option linter.unusedSimpArgs false
attribute [local go_sem] Oper.semAt_some
noncomputable def leftB (n : Nat) (v : Value) : Nat := if intOf v < 0 then 0 else n + 1 - (intOf v).toNat
theorem leftB_lt {n : Nat} {i : Nat} {r : Int} (hi : i < n) (hr : r = -1 ∨ ∃ j : Nat, r = j ∧ i < j) : leftB n (.int .i64 r) < leftB n (.int .i64 (i : Int)) := by
  have e : ∀ x : Int, leftB n (.int .i64 x) = if x < 0 then 0 else n + 1 - x.toNat := fun _ => rfl
  rw [e, e]
  rcases hr with rfl | ⟨j, rfl, hj⟩
  · rw [if_pos (by omega), if_neg (by omega)]; omega
  · rw [if_neg (by omega), if_neg (by omega)]; omega
section
variable {M gw ga n : Nat} {ws us : List Nat}
set_option maxRecDepth 100000 in
set_option maxHeartbeats 2000000 in
theorem all_iter (nn : Nat) (hnn : 1 ≤ nn) (l Bx : Nat) (hn : n ≤ 65536) (P : List Nat → World → Prop) (Lp : World → Prop) (Ex : World → Prop)
    (hP : ∀ pre W, P pre W → BmOk W M n ws gw ga us ∧ W.cell? ⟨Bx, 0, none⟩ = some (.pointer (some ⟨M, 0, none⟩)))
    (hY : ∀ i W, i < n → bitW ws i = true → P (setsL ws i) W → Lp W → YieldAt Fence.wide (nn - 1) Tryd.prog l #[.int .i64 (i : Int)] W fun e W' => (e = .returned (.bool true) ∧ P (setsL ws (i + 1)) W' ∧ Lp W') ∨ (e = .returned (.bool false) ∧ Ex W'))
    (W : World) (h0 : P [] W) (hl : Lp W) :
    CallsIn Fence.wide nn Tryd.prog 30 #[.func (.yield l) #[] #[], .pointer (some ⟨Bx, 0, none⟩)] W fun e W' => (∃ v, e = .returned v) ∧ ((P (setsL ws n) W' ∧ Lp W') ∨ Ex W') := by
  obtain ⟨hb0, hc0⟩ := hP [] W h0
  have N0 := Lib.hid (bm_next_any 0 hb0 hn (by omega))
  have HP := Lib.hid hP
  have HY := Lib.hid hY
  have e0 : setsL ws 0 = [] := rfl
  have HH0 := Lib.hid (show P (setsL ws 0) W ∧ Lp W from ⟨h0, hl⟩)
  clear hb0 hP hY h0 hl e0
  refine callsIn_of_wp Tryd.func30 rfl trivial ?_ rfl
  simp only [Tryd.ntmps30, List.size_toArray, List.length_cons, List.length_nil, Nat.reduceAdd, Nat.reduceSub, Array.replicate_succ, Array.replicate_zero, List.push_toArray, List.append_toArray, List.nil_append, List.cons_append]
  gi_wp2_with (refine ⟨trivial, ?_⟩; gi_at_call 31; refine (callsIn_wide.2 N0.out).mono ?_; rintro e w' ⟨r, rfl, hN, rfl⟩)
  gi_loopw [3] (fun p wr => ∃ (f : Nat) (r : Int), p = .int .i64 r ∧ f ≤ n ∧ Hid (NextP ws n f r) ∧ Hid (P (setsL ws f) wr ∧ Lp wr))
    (fun p wr => leftB n p)
  case atStart => exact ⟨0, r, rfl, by omega, Lib.hid hN, HH0⟩
  case round =>
    obtain ⟨f, r, rfl, hfn, hN2, hJ⟩ := hrel
    rcases hN2.out with ⟨i, rfl, hfi, hin, hbi, hno⟩ | ⟨rfl, hno⟩
    · have hs : setsL ws i = setsL ws f := setsL_to ws hfi hno
      have hPi := hJ.out.1
      rw [← hs] at hPi
      obtain ⟨fn, tmps, assign, body, hy, hR⟩ := HY.out i wr hin hbi hPi hJ.out.2
      have hi0 : (0 : Int) ≤ (i : Int) := by omega
      have HS := Lib.hid hin
      clear hs hno hN2 hJ hPi hN
      gi_wp2
      refine hR.mono ?_
      rintro e W3 (⟨rfl, hJ3, hl3⟩ | ⟨rfl, hx3⟩)
      · obtain ⟨hb3, hc3⟩ := HP.out _ _ hJ3
        have N3 := Lib.hid (bm_next_any (i + 1) hb3 hn (by omega))
        have HJ3 := Lib.hid (show P (setsL ws (i + 1)) W3 ∧ Lp W3 from ⟨hJ3, hl3⟩)
        clear hb3 hJ3 hl3
        gi_wp2_with (refine ⟨trivial, ?_⟩; gi_at_call 31; refine (callsIn_wide.2 N3.out).mono ?_; rintro e w' ⟨r, rfl, hN, rfl⟩)
        go_roundw
        case rel => exact ⟨i + 1, r, rfl, by have := HS.out; omega, Lib.hid hN, HJ3⟩
        case measure => exact leftB_lt HS.out (by rcases hN with ⟨j, rfl, hj, _⟩ | ⟨rfl, _⟩; exact .inr ⟨j, rfl, by omega⟩; exact .inl rfl)
      · gi_wp2
        refine bodyPost_ret (results_none rfl _ _ _) rfl ?_
        exact ⟨⟨_, rfl⟩, .inr hx3⟩
    · have hs : setsL ws n = setsL ws f := setsL_to ws hfn hno
      have hPn := hJ.out
      rw [← hs] at hPn
      have HF := Lib.hid hPn
      clear hs hno hN2 hJ hPn hN
      gi_wp2
      go_end0
      exact ⟨⟨_, rfl⟩, .inl HF.out⟩
set_option maxRecDepth 20000 in
theorem all_any (w : World) : Calls Tryd.prog 22 #[.pointer (some ⟨M, 0, none⟩)] w fun e w' => e = .returned (.func (.func 30) #[] #[.pointer (some ⟨w.heap.size, 0, none⟩)]) ∧ w' = w.alloc (.cells #[.pointer (some ⟨M, 0, none⟩)] 56) := by
  go_enter Tryd.func22, Tryd.ntmps22
  go_wp2
  go_ret
  exact ⟨rfl, rfl⟩
end
end Go.Proofs.YtdhccjmokmdboaaDoor
