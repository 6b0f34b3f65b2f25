/- The document's log: Add, by contract. -/
import Derived.Test.YtagkhhoimgighaaTlRb
namespace Go.Proofs.Ytagkhhoimgighaa
open Go.RowKit
set_option linter.unusedVariables false
set_option linter.unusedSimpArgs false
section
variable {w w' : World} {R : Nat} {r : RefT} {F : Nat → Prop}
theorem RefIn.drewN {A : Option Addr} {c : Nat} (h : RefIn w R r A c) (n : Nat) : RefIn (w.drewN n) R r A c := ⟨h.blk, h.row, h.loc⟩
set_option maxRecDepth 20000 in
set_option maxHeartbeats 4000000 in
theorem radd_no (id blk : Int) (h : RefAt w R r F) (hl : r.lines.length ≤ 1024) (hno : rAddR r id blk ≠ 0) :
    Calls Try.prog 34 #[.pointer (some ⟨R, 0, none⟩), .int .i64 id, .int .i64 blk] w fun e w' => e = .returned (.tuple #[.int .i64 0, .bool false, .int .i64 (rAddR r id blk)]) ∧ ∃ n, w' = w.drewN n := by
  obtain ⟨A, c, h, hF⟩ := h
  obtain ⟨pn, hpn⟩ : ∃ pn, r.lines.length = pn := ⟨_, rfl⟩
  rw [hpn] at hl
  have c0 : w.cell? ⟨R, 0, none⟩ = some (.slice A pn c) := by rw [← hpn]; exact h.blk.cell 0
  have c1 : w.cell? ⟨R, 1, none⟩ = some (.int .i64 r.now) := h.blk.cell 1
  have c2 : w.cell? ⟨R, 2, none⟩ = some (.int .i64 r.limit) := h.blk.cell 2
  have c3 : w.cell? ⟨R, 3, none⟩ = some (.int .i64 r.each) := h.blk.cell 3
  have GF := Lib.hid (rfind_any R pn c A r.lines id w hpn (by omega) c0 h.row.rds)
  have GO := Lib.hid (rof_any R pn c A r.lines r.now w.drew hpn (by omega) c0 h.row.rds)
  obtain ⟨q, hq⟩ : ∃ q, ofR r.lines r.now = q := ⟨_, rfl⟩
  rw [hq] at GO
  clear h hF
  by_cases h1 : id < 1
  · have hR : rAddR r id blk = 1 := by unfold rAddR; rw [if_pos h1]
    rw [hR]
    clear c0 c1 c2 c3 hno hR
    go_enter Try.func34, Try.ntmps34
    go_wp2
    go_ret3
    exact ⟨rfl, 0, rfl⟩
  by_cases h2 : blk < 0 ∨ 4096 ≤ blk
  · have hR : rAddR r id blk = 2 := by unfold rAddR; rw [if_neg h1, if_pos h2]
    rw [hR]
    clear c0 c1 c2 c3 hno hR
    have h3 : blk < 0 ∨ (0 ≤ blk ∧ 4096 ≤ blk) := by omega
    clear h2
    rcases h3 with h3 | ⟨h3, h4⟩
    all_goals
      go_enter Try.func34, Try.ntmps34
      go_wp2
      go_ret3
      exact ⟨rfl, 0, rfl⟩
  have h3 : ¬ blk < 0 := by omega
  have h4 : ¬ 4096 ≤ blk := by omega
  cases hf : posR r.lines id with
  | some g =>
    have hR : rAddR r id blk = 102 := by unfold rAddR; rw [if_neg h1, if_neg h2, if_pos (by rw [hf]; rfl)]
    rw [hR]
    rw [show posI r.lines id = (g : Int) from by unfold posI; rw [hf]] at GF
    have hg0 : (0 : Int) ≤ (g : Int) := by omega
    clear c0 c1 c2 c3 hno hR hf h2
    go_enter Try.func34, Try.ntmps34
    go_wp2_with fail
    refine GF.out.mono ?_
    rintro e w' ⟨rfl, rfl⟩
    go_wp2
    go_ret3
    exact ⟨rfl, 0, rfl⟩
  | none =>
    have h5 : r.limit ≤ r.lines.length ∨ r.each ≤ ofR r.lines r.now := by
      unfold rAddR at hno
      rw [if_neg h1, if_neg h2, hf] at hno
      simp only [Option.isSome_none, Bool.false_eq_true, if_false] at hno
      by_cases h : r.limit ≤ r.lines.length ∨ r.each ≤ ofR r.lines r.now
      · exact h
      · rw [if_neg h] at hno; exact absurd rfl hno
    have hR : rAddR r id blk = 4 := by unfold rAddR; rw [if_neg h1, if_neg h2, hf, if_neg (by simp), if_pos h5]
    rw [hR]
    rw [show posI r.lines id = -1 from by unfold posI; rw [hf]] at GF
    rw [hq, hpn] at h5
    have T0 : w.drew.cell? ⟨R, 0, none⟩ = some (.slice A pn c) ∧ w.drew.cell? ⟨R, 1, none⟩ = some (.int .i64 r.now) ∧ w.drew.cell? ⟨R, 2, none⟩ = some (.int .i64 r.limit) ∧ w.drew.cell? ⟨R, 3, none⟩ = some (.int .i64 r.each) := ⟨c0, c1, c2, c3⟩
    clear hno hR hf h2 hq
    rcases Classical.em (r.limit ≤ (pn : Int)) with h6 | h6
    · clear h5
      go_enter Try.func34, Try.ntmps34
      go_wp2_with fail
      refine GF.out.mono ?_
      rintro e w' ⟨rfl, rfl⟩
      go_wp2
      refine wp_region_noPanic ?_
      refine wp_region_held_drew (S := fun w' => w'.cell? ⟨R, 0, none⟩ = some (.slice A pn c) ∧ w'.cell? ⟨R, 1, none⟩ = some (.int .i64 r.now) ∧ w'.cell? ⟨R, 2, none⟩ = some (.int .i64 r.limit) ∧ w'.cell? ⟨R, 3, none⟩ = some (.int .i64 r.each)) (by kernel_rfl) (T0) (fun hHeld => ?_)
      refine take_on (i := 0) (some 25) (v := ?vr1) rfl rfl (by kernel_rfl) (by kernel_rfl) (by kernel_rfl) (fun _ _ _ h => h) (by rfl) ?hyr1 (by with_reducible exact hHeld) ?restr1
      case hyr1 => (intro wS hSw; (try dsimp only at hSw); go_simp; try with_reducible rfl)
      try simp only [Act.put, List.setIfInBounds_toArray, List.set_cons_zero, List.set_cons_succ]
      refine take_on (i := 1) (some 26) (v := ?vr2) rfl rfl (by kernel_rfl) (by kernel_rfl) (by kernel_rfl) (fun _ _ _ h => h) (by rfl) ?hyr2 (by with_reducible exact hHeld) ?restr2
      case hyr2 => (intro wS hSw; (try dsimp only at hSw); go_simp; try with_reducible rfl)
      try simp only [Act.put, List.setIfInBounds_toArray, List.set_cons_zero, List.set_cons_succ]
      refine take_on (i := 2) (some 27) (v := ?vr3) rfl rfl (by kernel_rfl) (by kernel_rfl) (by kernel_rfl) (fun _ _ _ h => h) (by rfl) ?hyr3 (by with_reducible exact hHeld) ?restr3
      case hyr3 => (intro wS hSw; (try dsimp only at hSw); go_simp; try with_reducible rfl)
      try simp only [Act.put, List.setIfInBounds_toArray, List.set_cons_zero, List.set_cons_succ]
      refine take_on (i := 3) (some 28) (v := ?vr4) rfl rfl (by kernel_rfl) (by kernel_rfl) (by kernel_rfl) (fun _ _ _ h => h) (by rfl) ?hyr4 (by with_reducible exact hHeld) ?restr4
      case hyr4 => (intro wS hSw; (try dsimp only at hSw); go_simp; try with_reducible rfl)
      try simp only [Act.put, List.setIfInBounds_toArray, List.set_cons_zero, List.set_cons_succ]
      refine take_on (i := 4) (some 29) (v := ?vr5) rfl rfl (by kernel_rfl) (by kernel_rfl) (by kernel_rfl) (fun _ _ _ h => h) (by rfl) ?hyr5 (by with_reducible exact hHeld) ?restr5
      case hyr5 => (intro wS hSw; (try dsimp only at hSw); go_simp; try with_reducible rfl)
      try simp only [Act.put, List.setIfInBounds_toArray, List.set_cons_zero, List.set_cons_succ]
      refine take_on (i := 5) (some 30) (v := ?vr6) rfl rfl (by kernel_rfl) (by kernel_rfl) (by kernel_rfl) (fun _ _ _ h => h) (by rfl) ?hyr6 (by with_reducible exact hHeld) ?restr6
      case hyr6 => (intro wS hSw; (try dsimp only at hSw); go_simp; try with_reducible rfl)
      try simp only [Act.put, List.setIfInBounds_toArray, List.set_cons_zero, List.set_cons_succ]
      refine take_on (i := 6) (some 31) (v := ?vr7) rfl rfl (by kernel_rfl) (by kernel_rfl) (by kernel_rfl) (fun _ _ _ h => h) (by rfl) ?hyr7 (by with_reducible exact hHeld) ?restr7
      case hyr7 => (intro wS hSw; (try dsimp only at hSw); go_simp; try with_reducible rfl)
      try simp only [Act.put, List.setIfInBounds_toArray, List.set_cons_zero, List.set_cons_succ]
      refine take_on (i := 7) (some 32) (v := ?vr8) rfl rfl (by kernel_rfl) (by kernel_rfl) (by kernel_rfl) (fun _ _ _ h => h) (by rfl) ?hyr8 (by with_reducible exact hHeld) ?restr8
      case hyr8 => (intro wS hSw; (try dsimp only at hSw); go_simp; try with_reducible rfl)
      try simp only [Act.put, List.setIfInBounds_toArray, List.set_cons_zero, List.set_cons_succ]
      refine take_on (i := 8) (some 33) (v := ?vr9) rfl rfl (by kernel_rfl) (by kernel_rfl) (by kernel_rfl) (fun _ _ _ h => h) (by rfl) ?hyr9 (by with_reducible exact hHeld) ?restr9
      case hyr9 => (intro wS hSw; (try dsimp only at hSw); go_simp; try with_reducible rfl)
      try simp only [Act.put, List.setIfInBounds_toArray, List.set_cons_zero, List.set_cons_succ]
      refine take_on (i := 9) (some 34) (v := ?vr10) rfl rfl (by kernel_rfl) (by kernel_rfl) (by kernel_rfl) (fun _ _ _ h => h) (by rfl) ?hyr10 (by with_reducible exact hHeld) ?restr10
      case hyr10 => (intro wS hSw; (try dsimp only at hSw); go_simp; try with_reducible rfl)
      try simp only [Act.put, List.setIfInBounds_toArray, List.set_cons_zero, List.set_cons_succ]
      refine take_on (i := 10) (some 35) (v := ?vr11) rfl rfl (by kernel_rfl) (by kernel_rfl) (by kernel_rfl) (fun _ _ _ h => h) (by rfl) ?hyr11 (by with_reducible exact hHeld) ?restr11
      case hyr11 => (intro wS hSw; (try dsimp only at hSw); go_simp; try with_reducible rfl)
      try simp only [Act.put, List.setIfInBounds_toArray, List.set_cons_zero, List.set_cons_succ]
      refine take_off (i := 11) (some 36) rfl rfl (by kernel_rfl) (by kernel_rfl) (by kernel_rfl) (fun _ _ _ h => h) (by rfl) (by with_reducible exact hHeld) ?_
      try simp only [Act.put, List.setIfInBounds_toArray, List.set_cons_zero, List.set_cons_succ]
      refine take_off (i := 12) (some 37) rfl rfl (by kernel_rfl) (by kernel_rfl) (by kernel_rfl) (fun _ _ _ h => h) (by rfl) (by with_reducible exact hHeld) ?_
      try simp only [Act.put, List.setIfInBounds_toArray, List.set_cons_zero, List.set_cons_succ]
      refine take_off (i := 13) (some 38) rfl rfl (by kernel_rfl) (by kernel_rfl) (by kernel_rfl) (fun _ _ _ h => h) (by rfl) (by with_reducible exact hHeld) ?_
      try simp only [Act.put, List.setIfInBounds_toArray, List.set_cons_zero, List.set_cons_succ]
      refine take_off (i := 14) (some 39) rfl rfl (by kernel_rfl) (by kernel_rfl) (by kernel_rfl) (fun _ _ _ h => h) (by rfl) (by with_reducible exact hHeld) ?_
      try simp only [Act.put, List.setIfInBounds_toArray, List.set_cons_zero, List.set_cons_succ]
      refine take_off (i := 15) (some 40) rfl rfl (by kernel_rfl) (by kernel_rfl) (by kernel_rfl) (fun _ _ _ h => h) (by rfl) (by with_reducible exact hHeld) ?_
      try simp only [Act.put, List.setIfInBounds_toArray, List.set_cons_zero, List.set_cons_succ]
      refine take_off (i := 16) (some 41) rfl rfl (by kernel_rfl) (by kernel_rfl) (by kernel_rfl) (fun _ _ _ h => h) (by rfl) (by with_reducible exact hHeld) ?_
      try simp only [Act.put, List.setIfInBounds_toArray, List.set_cons_zero, List.set_cons_succ]
      refine take_off (i := 17) (some 42) rfl rfl (by kernel_rfl) (by kernel_rfl) (by kernel_rfl) (fun _ _ _ h => h) (by rfl) (by with_reducible exact hHeld) ?_
      try simp only [Act.put, List.setIfInBounds_toArray, List.set_cons_zero, List.set_cons_succ]
      refine take_off (i := 18) (some 43) rfl rfl (by kernel_rfl) (by kernel_rfl) (by kernel_rfl) (fun _ _ _ h => h) (by rfl) (by with_reducible exact hHeld) ?_
      try simp only [Act.put, List.setIfInBounds_toArray, List.set_cons_zero, List.set_cons_succ]
      refine take_off (i := 19) (some 44) rfl rfl (by kernel_rfl) (by kernel_rfl) (by kernel_rfl) (fun _ _ _ h => h) (by rfl) (by with_reducible exact hHeld) ?_
      try simp only [Act.put, List.setIfInBounds_toArray, List.set_cons_zero, List.set_cons_succ]
      refine take_off (i := 20) (some 45) rfl rfl (by kernel_rfl) (by kernel_rfl) (by kernel_rfl) (fun _ _ _ h => h) (by rfl) (by with_reducible exact hHeld) ?_
      try simp only [Act.put, List.setIfInBounds_toArray, List.set_cons_zero, List.set_cons_succ]
      refine take_off (i := 21) (some 46) rfl rfl (by kernel_rfl) (by kernel_rfl) (by kernel_rfl) (fun _ _ _ h => h) (by rfl) (by with_reducible exact hHeld) ?_
      try simp only [Act.put, List.setIfInBounds_toArray, List.set_cons_zero, List.set_cons_succ]
      refine take_on (i := 22) (some 47) (v := ?vr12) rfl rfl (by kernel_rfl) (by kernel_rfl) (by kernel_rfl) (fun _ _ _ h => h) (by rfl) ?hyr12 (by with_reducible exact hHeld) ?restr12
      case hyr12 => (intro wS hSw; (try dsimp only at hSw); go_simp; try with_reducible rfl)
      try simp only [Act.put, List.setIfInBounds_toArray, List.set_cons_zero, List.set_cons_succ]
      refine take_on (i := 23) (some 24) (v := ?vr13) rfl rfl (by kernel_rfl) (by kernel_rfl) (by kernel_rfl) (fun _ _ _ h => h) (by rfl) ?hyr13 (by with_reducible exact hHeld) ?restr13
      case hyr13 => (intro wS hSw; (try dsimp only at hSw); go_simp; try with_reducible rfl)
      try simp only [Act.put, List.setIfInBounds_toArray, List.set_cons_zero, List.set_cons_succ]
      refine wpAnyH_done (by kernel_rfl) ?_ _
      refine NoPanic.normal ?_
      go_wp2
      go_ret3
      exact ⟨rfl, 1, rfl⟩
    · have h7 : r.each ≤ (q : Int) := h5.resolve_left h6
      have h8 : decide (r.limit ≤ (pn : Int)) = false := decide_eq_false h6
      have h9 : decide (r.each ≤ (q : Int)) = true := decide_eq_true h7
      clear h5
      go_enter Try.func34, Try.ntmps34
      go_wp2_with fail
      refine GF.out.mono ?_
      rintro e w' ⟨rfl, rfl⟩
      go_wp2
      go_region_held3 (fun w' => w'.cell? ⟨R, 0, none⟩ = some (.slice A pn c) ∧ w'.cell? ⟨R, 1, none⟩ = some (.int .i64 r.now) ∧ w'.cell? ⟨R, 2, none⟩ = some (.int .i64 r.limit) ∧ w'.cell? ⟨R, 3, none⟩ = some (.int .i64 r.each)) (exact T0) (first | (go_at_call 48; (with_reducible refine GO.out.mono ?_); rintro e w' ⟨rfl, rfl⟩))
      all_goals
        go_wp2
        go_ret3
        exact ⟨rfl, 1, rfl⟩
end
end Go.Proofs.Ytagkhhoimgighaa
