/- Package replicalaw09: the Ledger's fair, by contract. -/
import Derived.Test.YtkjbjfjgnponfaaLkN
namespace Go.Proofs.Ytkjbjfjgnponfaa
open Go.RowKit
set_option linter.unusedSimpArgs false
set_option linter.unusedVariables false
set_option maxRecDepth 20000 in
set_option maxHeartbeats 16000000 in
theorem fair_acq1 (base T E n Q x i : Nat) ( owner : Int) (sec : Bool) (V VL : Nat → Value) (wait : Int) (L : Nat → List Pl) (w : World) (hx : x < n) (hn : n ≤ 4096) (hi : i < 512) (hS : FairS base w T E n Q x i V L wait VL) :
    Calls Try.prog 15 #[.pointer (some ⟨Q, 0, none⟩), .pointer (some ⟨T, 0, none⟩), .agg #[.int .i64 1, .bool sec, .int .i64 (x : Int), .int .i64 1, .int .i64 owner]] w fun e w' => e = .returned (.bool true) ∧ Below base w w' ∧ ∃ (V' VL' : Nat → Value) (L' : Nat → List Pl) (wait' : Int), FairS base w' T E n Q x (i + 1) V' L' wait' VL' := by
  have B1 := (Below.refl w.heap.size w).alloc (Nat.le_refl _) (.cells #[.int .i64 1, .bool sec, .int .i64 (x : Int), .int .i64 1, .int .i64 owner] 33)
  have S1 := Lib.hid (hS.below B1)
  have z1 := Blk.new w 33 #[.int .i64 1, .bool sec, .int .i64 (x : Int), .int .i64 1, .int .i64 owner]
  have hbw : base ≤ w.heap.size := Nat.le_trans hS.led.hQ (Nat.le_of_lt hS.led.blk.lt)
  have BB1 := Lib.hid (B1.mono hbw)
  obtain ⟨A0, c0, e0, r0⟩ := (S1.out.led.own 0 (by omega)).rd
  obtain ⟨A2, c2, e2, r2⟩ := (S1.out.led.own 2 (by omega)).rd
  have x0 := S1.out.led.cell (i := 0) (by omega)
  have x2 := S1.out.led.cell (i := 2) (by omega)
  rw [e0] at x0
  rw [e2] at x2
  obtain ⟨rn, hrn⟩ : ∃ k, k = (LdL (L (x * 2 + 1)) ((L (x * 2)).map (·.1)) 0).length := ⟨_, rfl⟩
  obtain ⟨hn2, hhn⟩ : ∃ k, k = (LdL (L (x * 2 + 1)) ((L (x * 2)).map (·.1)) 2).length := ⟨_, rfl⟩
  rw [← hrn] at x0
  rw [← hhn] at x2
  have i0 : x * 2 < 2 * n := by omega
  have i1 : x * 2 + 1 < 2 * n := by omega
  have lr : rn = (L (x * 2 + 1)).length := by rw [hrn]; exact List.length_map _
  have lh : hn2 = (L (x * 2)).length := by rw [hhn]; exact List.length_map _
  obtain ⟨ba, bb, bc, bd⟩ := hS.inv.bounds (Nat.le_of_lt hi)
  have bh2 := hS.inv.lens _ i0
  have bh3 := hS.inv.lens _ i1
  have rb : rn ≤ 512 := by omega
  have hb : hn2 ≤ 512 := by omega
  have gw := fun k => has_any A0 c0 rn (LdL (L (x * 2 + 1)) ((L (x * 2)).map (·.1)) 0) owner ((w.alloc (.cells #[.int .i64 1, .bool sec, .int .i64 (x : Int), .int .i64 1, .int .i64 owner] 33)).drewN k) hrn.symm (by omega) (r0.drewN k)
  have gh := fun k => has_any A2 c2 hn2 (LdL (L (x * 2 + 1)) ((L (x * 2)).map (·.1)) 2) owner ((w.alloc (.cells #[.int .i64 1, .bool sec, .int .i64 (x : Int), .int .i64 1, .int .i64 owner] 33)).drewN k) hhn.symm (by omega) (r2.drewN k)
  have Z1 := Lib.hid z1
  have E0 := Lib.hid (e0.trans (by rw [← hrn]))
  have E2 := Lib.hid (e2.trans (by rw [← hhn]))
  have LR := Lib.hid lr
  have LH := Lib.hid lh
  have BD := Lib.hid bd
  have m0 : (w.alloc (.cells #[.int .i64 1, .bool sec, .int .i64 (x : Int), .int .i64 1, .int .i64 owner] 33)).cell? ⟨w.heap.size, 0, none⟩ = some (.int .i64 1) := z1.cell 0
  have m2 : (w.alloc (.cells #[.int .i64 1, .bool sec, .int .i64 (x : Int), .int .i64 1, .int .i64 owner] 33)).cell? ⟨w.heap.size, 2, none⟩ = some (.int .i64 (x : Int)) := z1.cell 2
  have m3 : (w.alloc (.cells #[.int .i64 1, .bool sec, .int .i64 (x : Int), .int .i64 1, .int .i64 owner] 33)).cell? ⟨w.heap.size, 3, none⟩ = some (.int .i64 1) := z1.cell 3
  have m4 : (w.alloc (.cells #[.int .i64 1, .bool sec, .int .i64 (x : Int), .int .i64 1, .int .i64 owner] 33)).cell? ⟨w.heap.size, 4, none⟩ = some (.int .i64 owner) := z1.cell 4
  clear hS B1 z1 e0 e2 r0 r2 hrn hhn lr lh bd bh2 bh3
  have HA := acq_fair (owner := owner) hx S1.out.inv.hne (show (1 : Int) = 1 ∨ (1 : Int) = 2 by decide) BD.out
  rcases HA with ⟨ht, HA⟩ | ⟨⟨hh, hw⟩, HA⟩ | ⟨⟨hh, hw⟩, HA⟩
  · obtain ⟨pa, hpa⟩ : ∃ pa, pa = acqT n L wait 512 (x : Int) 1 owner := ⟨_, rfl⟩
    have ga := fun w0 h0 => acquireM_any base T E n 512 (x : Int) 1 owner V wait L w0 h0 hn ba bc
    have IA := Lib.hid (acq_inv (most := 512) (ex := (x : Int)) (mode := 1) (owner := owner) S1.out.inv)
    rw [← hpa] at IA HA
    simp only [← hpa] at ga
    obtain ⟨f1, f2, f3⟩ := HA
    by_cases hw : owner ∈ (L (x * 2 + 1)).map (·.1)
    · have hb1 : decide (owner ∈ LdL (L (x * 2 + 1)) ((L (x * 2)).map (·.1)) 0) = true := decide_eq_true hw
      simp only [hb1] at gw
      have GW := Lib.hid gw
      have GH := Lib.hid gh
      clear gw gh
      go_enter Try.func15, Try.ntmps15
      go_wp2_with fail
      go_quiet ((first | (go_at_call 24; with_reducible exact quiet_left (GW.out _)) | (go_at_call 24; with_reducible exact quiet_left (GH.out _))))
      go_wp2_with fail
      obtain ⟨w1, hw1⟩ : ∃ w1, w1 = (w.alloc (.cells #[.int .i64 1, .bool sec, .int .i64 (x : Int), .int .i64 1, .int .i64 owner] 33)).drewN nq := ⟨_, rfl⟩
      rw [← hw1]
      have S2 := Lib.hid (show FairS base w1 T E n Q x i V L wait VL from by rw [hw1]; exact S1.out.below (below_drewN (Below.refl _ _) nq))
      have Z2 := Lib.hid (show Blk w1 w.heap.size 33 #[.int .i64 1, .bool sec, .int .i64 (x : Int), .int .i64 1, .int .i64 owner] from by rw [hw1]; exact Z1.out)
      have B2 := Lib.hid (show Below base w w1 from by rw [hw1]; exact below_drewN BB1.out nq)
      clear hw1 m0 m2 m3 m4 x0 x2 GW GH
      have gA := ga w1 S2.out.tab
      rw [f1, f2] at gA
      have GA := Lib.hid gA
      clear ga gA
      refine GA.out.mono ?_
      rintro e w2 ⟨rfl, V5, hT5, hC5, hF5⟩
      have HT := Lib.hid hT5
      have HC := Lib.hid hC5
      have BB := Lib.hid (B2.out.trans (S2.out.tab.bel hC5))
      have HL := Lib.hid (S2.out.led.keepT S2.out.tab hC5)
      have Z3 := Lib.hid (hC5.blk Z2.out fun j hf => by
          rcases hf with hf | hf | ⟨j, hj, hf⟩
          · exact blk_type_ne Z2.out S2.out.tab.tb (by decide) hf
          · exact blk_type_ne Z2.out S2.out.tab.ex (by decide) hf
          · obtain ⟨_, cs, hb⟩ := (S2.out.tab.own j hj).blk hf
            exact blk_type_ne Z2.out hb (by decide) rfl)
      have y0 := HL.out.cell (i := 0) (by omega)
      have y2 := HL.out.cell (i := 2) (by omega)
      rw [E0.out] at y0
      rw [E2.out] at y2
      have v3 : w2.cell? ⟨w.heap.size, 3, none⟩ = some (.int .i64 1) := Z3.out.cell 3
      have v4 : w2.cell? ⟨w.heap.size, 4, none⟩ = some (.int .i64 owner) := Z3.out.cell 4
      have F3 := Lib.hid f3
      clear GA hT5 hC5 hF5 f1 f2 f3
      go_wp2_with (first | (go_at_call 18; (with_reducible refine (num_any _ _).mono ?_); rintro e w' ⟨rfl, rfl⟩))
      go_ret
      exact ⟨rfl, BB.out, V5, VL, pa.1, pa.2.1, HT.out, by rw [F3.out.1, F3.out.2]; exact HL.out, IA.out, by rw [F3.out.1, F3.out.2]; exact S1.out.nod⟩
    · have hh := ht.resolve_right hw
      have hb1 : decide (owner ∈ LdL (L (x * 2 + 1)) ((L (x * 2)).map (·.1)) 0) = false := decide_eq_false hw
      simp only [hb1] at gw
      have hb2 : decide (owner ∈ LdL (L (x * 2 + 1)) ((L (x * 2)).map (·.1)) 2) = true := decide_eq_true hh
      simp only [hb2] at gh
      have GW := Lib.hid gw
      have GH := Lib.hid gh
      clear gw gh
      go_enter Try.func15, Try.ntmps15
      go_wp2_with fail
      go_quiet ((first | (go_at_call 24; with_reducible exact quiet_left (GW.out _)) | (go_at_call 24; with_reducible exact quiet_left (GH.out _))))
      go_wp2_with fail
      obtain ⟨w1, hw1⟩ : ∃ w1, w1 = (w.alloc (.cells #[.int .i64 1, .bool sec, .int .i64 (x : Int), .int .i64 1, .int .i64 owner] 33)).drewN nq := ⟨_, rfl⟩
      rw [← hw1]
      have S2 := Lib.hid (show FairS base w1 T E n Q x i V L wait VL from by rw [hw1]; exact S1.out.below (below_drewN (Below.refl _ _) nq))
      have Z2 := Lib.hid (show Blk w1 w.heap.size 33 #[.int .i64 1, .bool sec, .int .i64 (x : Int), .int .i64 1, .int .i64 owner] from by rw [hw1]; exact Z1.out)
      have B2 := Lib.hid (show Below base w w1 from by rw [hw1]; exact below_drewN BB1.out nq)
      clear hw1 m0 m2 m3 m4 x0 x2 GW GH
      have gA := ga w1 S2.out.tab
      rw [f1, f2] at gA
      have GA := Lib.hid gA
      clear ga gA
      refine GA.out.mono ?_
      rintro e w2 ⟨rfl, V5, hT5, hC5, hF5⟩
      have HT := Lib.hid hT5
      have HC := Lib.hid hC5
      have BB := Lib.hid (B2.out.trans (S2.out.tab.bel hC5))
      have HL := Lib.hid (S2.out.led.keepT S2.out.tab hC5)
      have Z3 := Lib.hid (hC5.blk Z2.out fun j hf => by
          rcases hf with hf | hf | ⟨j, hj, hf⟩
          · exact blk_type_ne Z2.out S2.out.tab.tb (by decide) hf
          · exact blk_type_ne Z2.out S2.out.tab.ex (by decide) hf
          · obtain ⟨_, cs, hb⟩ := (S2.out.tab.own j hj).blk hf
            exact blk_type_ne Z2.out hb (by decide) rfl)
      have y0 := HL.out.cell (i := 0) (by omega)
      have y2 := HL.out.cell (i := 2) (by omega)
      rw [E0.out] at y0
      rw [E2.out] at y2
      have v3 : w2.cell? ⟨w.heap.size, 3, none⟩ = some (.int .i64 1) := Z3.out.cell 3
      have v4 : w2.cell? ⟨w.heap.size, 4, none⟩ = some (.int .i64 owner) := Z3.out.cell 4
      have F3 := Lib.hid f3
      clear GA hT5 hC5 hF5 f1 f2 f3
      go_wp2_with (first | (go_at_call 18; (with_reducible refine (num_any _ _).mono ?_); rintro e w' ⟨rfl, rfl⟩))
      go_ret
      exact ⟨rfl, BB.out, V5, VL, pa.1, pa.2.1, HT.out, by rw [F3.out.1, F3.out.2]; exact HL.out, IA.out, by rw [F3.out.1, F3.out.2]; exact S1.out.nod⟩
  · obtain ⟨pa, hpa⟩ : ∃ pa, pa = acqT n L wait 512 (x : Int) 1 owner := ⟨_, rfl⟩
    have ga := fun w0 h0 => acquireM_any base T E n 512 (x : Int) 1 owner V wait L w0 h0 hn ba bc
    have IA := Lib.hid (acq_inv (most := 512) (ex := (x : Int)) (mode := 1) (owner := owner) S1.out.inv)
    rw [← hpa] at IA HA
    simp only [← hpa] at ga
    obtain ⟨f1, f2, f3⟩ := HA
    have hb1 : decide (owner ∈ LdL (L (x * 2 + 1)) ((L (x * 2)).map (·.1)) 0) = false := decide_eq_false hw
    simp only [hb1] at gw
    have hb2 : decide (owner ∈ LdL (L (x * 2 + 1)) ((L (x * 2)).map (·.1)) 2) = false := decide_eq_false hh
    simp only [hb2] at gh
    have GW := Lib.hid gw
    have GH := Lib.hid gh
    clear gw gh
    go_enter Try.func15, Try.ntmps15
    go_wp2_with fail
    go_quiet ((first | (go_at_call 24; with_reducible exact quiet_left (GW.out _)) | (go_at_call 24; with_reducible exact quiet_left (GH.out _))))
    go_wp2_with fail
    obtain ⟨w1, hw1⟩ : ∃ w1, w1 = (w.alloc (.cells #[.int .i64 1, .bool sec, .int .i64 (x : Int), .int .i64 1, .int .i64 owner] 33)).drewN nq := ⟨_, rfl⟩
    rw [← hw1]
    have S2 := Lib.hid (show FairS base w1 T E n Q x i V L wait VL from by rw [hw1]; exact S1.out.below (below_drewN (Below.refl _ _) nq))
    have Z2 := Lib.hid (show Blk w1 w.heap.size 33 #[.int .i64 1, .bool sec, .int .i64 (x : Int), .int .i64 1, .int .i64 owner] from by rw [hw1]; exact Z1.out)
    have B2 := Lib.hid (show Below base w w1 from by rw [hw1]; exact below_drewN BB1.out nq)
    clear hw1 m0 m2 m3 m4 x0 x2 GW GH
    have gA := ga w1 S2.out.tab
    rw [f1, f2] at gA
    have GA := Lib.hid gA
    clear ga gA
    refine GA.out.mono ?_
    rintro e w2 ⟨rfl, V5, hT5, hC5, hF5⟩
    have HT := Lib.hid hT5
    have HC := Lib.hid hC5
    have BB := Lib.hid (B2.out.trans (S2.out.tab.bel hC5))
    have HL := Lib.hid (S2.out.led.keepT S2.out.tab hC5)
    have Z3 := Lib.hid (hC5.blk Z2.out fun j hf => by
        rcases hf with hf | hf | ⟨j, hj, hf⟩
        · exact blk_type_ne Z2.out S2.out.tab.tb (by decide) hf
        · exact blk_type_ne Z2.out S2.out.tab.ex (by decide) hf
        · obtain ⟨_, cs, hb⟩ := (S2.out.tab.own j hj).blk hf
          exact blk_type_ne Z2.out hb (by decide) rfl)
    have y0 := HL.out.cell (i := 0) (by omega)
    have y2 := HL.out.cell (i := 2) (by omega)
    rw [E0.out] at y0
    rw [E2.out] at y2
    have v3 : w2.cell? ⟨w.heap.size, 3, none⟩ = some (.int .i64 1) := Z3.out.cell 3
    have v4 : w2.cell? ⟨w.heap.size, 4, none⟩ = some (.int .i64 owner) := Z3.out.cell 4
    have F3 := Lib.hid f3
    clear GA hT5 hC5 hF5 f1 f2 f3
    have hrz : ¬ ((0 : Int) < (rn : Int)) := by have := LR.out; rw [F3.out.1] at this; simp at this; omega
    go_wp2_with (first | (go_at_call 18; (with_reducible refine (num_any _ _).mono ?_); rintro e w' ⟨rfl, rfl⟩))
    obtain ⟨A2', c2', e2', G2', _⟩ := HL.out.own 2 (by omega)
    rw [E2.out] at e2'
    injection e2' with h1 h2 h3
    subst h1
    subst h3
    have HS := HL
    have VI := E2
    have LI := Lib.hid (show LdL (L (x * 2 + 1)) ((L (x * 2)).map (·.1)) 2 = ((L (x * 2)).map (·.1)) from rfl)
    have LN := Lib.hid (show (((L (x * 2)).map (·.1))).length = hn2 from h2.symm)
    have GG := Lib.hid G2'
    have SRC := Lib.hid (show w2.cell? ⟨w.heap.size, 4, none⟩ = some (.int .i64 owner) ∧ ∀ j : Nat, ¬ LdF Q VL w.heap.size from ⟨v4, fun _ hf => by
      obtain ⟨_, t, cs, hb, hty⟩ := HL.out.typ hf
      exact blk_type_ne hb Z3.out (by rcases hty with rfl | rfl <;> decide) rfl⟩)
    have hbd : hn2 + 1 ≤ 8000001000001 := by omega
    clear G2' h2 HL
    have Sa := Lib.hid (HS.out.below (((Below.refl w2.heap.size w2).alloc (Nat.le_refl _) (.cells #[.int .i64 owner] 3)).drew))
    have Ga := Lib.hid (show GSl enc1 1 3 (w2.alloc (.cells #[.int .i64 owner] 3)).drew A2 c2 ((L (x * 2)).map (·.1)) from GG.out.chg ((Chg.alloc (fun _ _ => False) w2 (.cells #[.int .i64 owner] 3)).drew) enc1_len fun _ _ _ h => h)
    have Rn := Lib.hid (show RdS enc1 1 (w2.alloc (.cells #[.int .i64 owner] 3)).drew (some ⟨w2.heap.size, 0, none⟩) [owner] from (RdS.new1 enc1 1 w2 3 owner))
    have cq0 : w2.drew.cell? ⟨Q, 2, none⟩ = some (.slice A2 hn2 c2) := by show w2.cell? _ = _; rw [HS.out.cell (by omega), VI.out]
    have cq1 : (w2.alloc (.cells #[.int .i64 owner] 3)).drew.cell? ⟨Q, 2, none⟩ = some (.slice A2 hn2 c2) := by rw [Sa.out.cell (by omega), VI.out]
    have SF0 := Lib.hid (show w2.drew.cell? ⟨w.heap.size, 4, none⟩ = some (.int .i64 owner) from SRC.out.1)
    have SFa := Lib.hid (show (w2.alloc (.cells #[.int .i64 owner] 3)).drew.cell? ⟨w.heap.size, 4, none⟩ = some (.int .i64 owner) from ((Chg.alloc (fun _ _ => False) w2 (.cells #[.int .i64 owner] 3)).drew).cellp (fun _ h => h) SRC.out.1)
    refine wp_region_noPanic ?_
    refine wp_region_held_drew (S := fun w' => w'.cell? ⟨w.heap.size, 4, none⟩ = some (.int .i64 owner)) (by kernel_rfl) (SF0.out) (fun hHeld => ?_)
    refine take_on (i := 0) (some 88) (v := ?vr1) rfl rfl (by kernel_rfl) (by kernel_rfl) (by kernel_rfl) (fun _ _ _ h => h) (by rfl) ?hyr1 (by with_reducible exact hHeld) ?restr1
    case hyr1 => (intro wS hSw; (try dsimp only at hSw); go_simp; try with_reducible rfl)
    try simp only [Act.put, List.setIfInBounds_toArray, List.set_cons_zero, List.set_cons_succ]
    refine take_on (i := 1) (some 89) (v := ?vr2) rfl rfl (by kernel_rfl) (by kernel_rfl) (by kernel_rfl) (fun _ _ _ h => h) (by rfl) ?hyr2 (by with_reducible exact hHeld) ?restr2
    case hyr2 => (intro wS hSw; (try dsimp only at hSw); go_simp; try with_reducible rfl)
    try simp only [Act.put, List.setIfInBounds_toArray, List.set_cons_zero, List.set_cons_succ]
    refine take_on (i := 2) (some 90) (v := ?vr3) rfl rfl (by kernel_rfl) (by kernel_rfl) (by kernel_rfl) (fun _ _ _ h => h) (by rfl) ?hyr3 (by with_reducible exact hHeld) ?restr3
    case hyr3 => (intro wS hSw; (try dsimp only at hSw); go_simp; try with_reducible rfl)
    try simp only [Act.put, List.setIfInBounds_toArray, List.set_cons_zero, List.set_cons_succ]
    refine take_on (i := 3) (some 91) (v := ?vr4) rfl rfl (by kernel_rfl) (by kernel_rfl) (by kernel_rfl) (fun _ _ _ h => h) (by rfl) ?hyr4 (by with_reducible exact hHeld) ?restr4
    case hyr4 => (intro wS hSw; (try dsimp only at hSw); go_simp; try with_reducible rfl)
    try simp only [Act.put, List.setIfInBounds_toArray, List.set_cons_zero, List.set_cons_succ]
    refine take_on (i := 5) (some 93) (v := ?vr5) rfl rfl (by kernel_rfl) (by kernel_rfl) (by kernel_rfl) (fun _ _ _ h => h) (by rfl) ?hyr5 (by with_reducible exact hHeld) ?restr5
    case hyr5 => (intro wS hSw; (try dsimp only at hSw); go_simp; try with_reducible rfl)
    try simp only [Act.put, List.setIfInBounds_toArray, List.set_cons_zero, List.set_cons_succ]
    refine take_on (i := 6) (some 94) (v := ?vr6) rfl rfl (by kernel_rfl) (by kernel_rfl) (by kernel_rfl) (fun _ _ _ h => h) (by rfl) ?hyr6 (by with_reducible exact hHeld) ?restr6
    case hyr6 => (intro wS hSw; (try dsimp only at hSw); go_simp; try with_reducible rfl)
    try simp only [Act.put, List.setIfInBounds_toArray, List.set_cons_zero, List.set_cons_succ]
    refine wpAnyH_ready (rs := [4, 7]) (by kernel_rfl) (by simp) ?_
    refine AllReadyH.cons rfl (fun K hK => ?_) ?_
    · go_simp
      refine hK.out _ _ (SF0.out) (fun hHeld => ?_)
      clear hK K
      try simp only [Act.put, List.setIfInBounds_toArray, List.set_cons_zero, List.set_cons_succ]
      refine wpAnyH_ready (rs := [7]) (by kernel_rfl) (by simp) ?_
      refine AllReadyH.cons rfl (fun K hK => ?_) AllReadyH.nil
      go_simp
      refine hK.out _ _ (SFa.out) (fun hHeld => ?_)
      clear hK K
      try simp only [Act.put, List.setIfInBounds_toArray, List.set_cons_zero, List.set_cons_succ]
      refine wpAnyH_ready (rs := [8]) (by kernel_rfl) (by simp) ?_
      refine AllReadyH.cons rfl (fun K hK => ?_) AllReadyH.nil
      refine step_appendG intTy (by decide) enc1_len enc1_one (by rfl) (.tmp 92) (.tmp 95) (by rfl) A2 c2 ((L (x * 2)).map (·.1)) (by rw [LN.out]; rfl) Ga.out (some ⟨w2.heap.size, 0, none⟩) 1 [owner] (by rfl) Rn.out (by rw [LN.out]; simp only [maxLen, List.length_singleton]; omega) (by rw [LN.out]; simp only [List.length_singleton]; omega) ?_
      intro A' c' wz h4 k4 q4
      have hlp : (((L (x * 2)).map (·.1)) ++ [owner]).length = hn2 + 1 := by rw [List.length_append, LN.out]; rfl
      obtain ⟨SP, CP, CP2, FP, cq2, fq2⟩ := Sa.out.app (i := 2) (by omega) LI.out (by rw [LN.out]; exact VI.out) h4 k4 q4
      rw [hlp] at SP CP2 FP ⊢
      rw [VI.out] at cq2
      have SF2 := Lib.hid (CP.cellp SRC.out.2 SFa.out)
      have SF3 := Lib.hid (CP2.cellp SRC.out.2 SFa.out)
      have HSP := Lib.hid SP
      have HC2 := Lib.hid (((Chg.alloc (fun k _ => LdF Q VL k) w2 (.cells #[.int .i64 owner] 3)).drew).trans CP2 fun _ _ _ h => h)
      have HFP := Lib.hid (show ∀ k, LdF Q (upd VL 2 (.slice A' (hn2 + 1) c')) k → LdF Q VL k ∨ w2.heap.size ≤ k from fun k hk => (FP k hk).imp id fun h => Nat.le_trans (by simp [World.drew]) h)
      clear h4 k4 q4 hlp SP CP CP2 FP
      refine hK.out _ _ SF2.out (fun hHeld => ?_)
      clear hK K
      try simp only [Act.put, List.setIfInBounds_toArray, List.set_cons_zero, List.set_cons_succ]
      refine take_on (i := 9) (some 97) (v := ?vr7) rfl rfl (by kernel_rfl) (by kernel_rfl) (by kernel_rfl) (fun _ _ _ h => h) (by rfl) ?hyr7 (by with_reducible exact hHeld) ?restr7
      case hyr7 => (intro wS hSw; (try dsimp only at hSw); go_simp; try with_reducible rfl)
      try simp only [Act.put, List.setIfInBounds_toArray, List.set_cons_zero, List.set_cons_succ]
      refine take_on (i := 10) (some 98) (v := ?vr8) rfl rfl (by kernel_rfl) (by kernel_rfl) (by kernel_rfl) (fun _ _ _ h => h) (by rfl) ?hyr8 (by with_reducible exact hHeld) ?restr8
      case hyr8 => (intro wS hSw; (try dsimp only at hSw); go_simp; try with_reducible rfl)
      try simp only [Act.put, List.setIfInBounds_toArray, List.set_cons_zero, List.set_cons_succ]
      refine wpAnyH_ready (rs := [11]) (by kernel_rfl) (by simp) ?_
      refine AllReadyH.cons rfl (fun K hK => ?_) AllReadyH.nil
      go_simp
      refine hK.out _ _ (SF3.out) (fun hHeld => ?_)
      clear hK K
      try simp only [Act.put, List.setIfInBounds_toArray, List.set_cons_zero, List.set_cons_succ]
      refine wpAnyH_done (by kernel_rfl) ?_ _
      refine NoPanic.normal ?_
      have HS5 := Lib.hid (HSP.out.congr (L' := LdL (pa.1 (x * 2 + 1)) ((pa.1 (x * 2)).map (·.1))) fun j hj => by
        match j, hj with
        | 0, _ => rw [F3.out.2.2]; rfl
        | 1, _ => rw [F3.out.2.2]; rfl
        | 2, _ =>
          show ((L (x * 2)).map (·.1)) ++ [owner] = (pa.1 (x * 2)).map (·.1)
          rw [F3.out.2.1]
          simp)
      have HB5 := Lib.hid (BB.out.trans (HS.out.bel HC2.out))
      have HT5 := Lib.hid (HT.out.keepL HS.out HC2.out)
      clear HSP HC2 HFP
      go_wp2
      go_ret
      exact ⟨rfl, HB5.out, V5, _, pa.1, pa.2.1, HT5.out, HS5.out, IA.out, by rw [F3.out.2.1, F3.out.2.2, List.append_assoc]; rw [show [(owner, 1)] ++ L (x * 2 + 1) = L (x * 2 + 1) ++ [(owner, 1)] from by rw [F3.out.1]; rfl]; exact nodup_add S1.out.nod hh hw⟩
    · refine AllReadyH.cons rfl (fun K hK => ?_) AllReadyH.nil
      go_simp
      refine hK.out _ _ (SFa.out) (fun hHeld => ?_)
      clear hK K
      try simp only [Act.put, List.setIfInBounds_toArray, List.set_cons_zero, List.set_cons_succ]
      refine wpAnyH_ready (rs := [4]) (by kernel_rfl) (by simp) ?_
      refine AllReadyH.cons rfl (fun K hK => ?_) AllReadyH.nil
      go_simp
      refine hK.out _ _ (SFa.out) (fun hHeld => ?_)
      clear hK K
      try simp only [Act.put, List.setIfInBounds_toArray, List.set_cons_zero, List.set_cons_succ]
      refine wpAnyH_ready (rs := [8]) (by kernel_rfl) (by simp) ?_
      refine AllReadyH.cons rfl (fun K hK => ?_) AllReadyH.nil
      refine step_appendG intTy (by decide) enc1_len enc1_one (by rfl) (.tmp 92) (.tmp 95) (by rfl) A2 c2 ((L (x * 2)).map (·.1)) (by rw [LN.out]; rfl) Ga.out (some ⟨w2.heap.size, 0, none⟩) 1 [owner] (by rfl) Rn.out (by rw [LN.out]; simp only [maxLen, List.length_singleton]; omega) (by rw [LN.out]; simp only [List.length_singleton]; omega) ?_
      intro A' c' wz h4 k4 q4
      have hlp : (((L (x * 2)).map (·.1)) ++ [owner]).length = hn2 + 1 := by rw [List.length_append, LN.out]; rfl
      obtain ⟨SP, CP, CP2, FP, cq2, fq2⟩ := Sa.out.app (i := 2) (by omega) LI.out (by rw [LN.out]; exact VI.out) h4 k4 q4
      rw [hlp] at SP CP2 FP ⊢
      rw [VI.out] at cq2
      have SF2 := Lib.hid (CP.cellp SRC.out.2 SFa.out)
      have SF3 := Lib.hid (CP2.cellp SRC.out.2 SFa.out)
      have HSP := Lib.hid SP
      have HC2 := Lib.hid (((Chg.alloc (fun k _ => LdF Q VL k) w2 (.cells #[.int .i64 owner] 3)).drew).trans CP2 fun _ _ _ h => h)
      have HFP := Lib.hid (show ∀ k, LdF Q (upd VL 2 (.slice A' (hn2 + 1) c')) k → LdF Q VL k ∨ w2.heap.size ≤ k from fun k hk => (FP k hk).imp id fun h => Nat.le_trans (by simp [World.drew]) h)
      clear h4 k4 q4 hlp SP CP CP2 FP
      refine hK.out _ _ SF2.out (fun hHeld => ?_)
      clear hK K
      try simp only [Act.put, List.setIfInBounds_toArray, List.set_cons_zero, List.set_cons_succ]
      refine take_on (i := 9) (some 97) (v := ?vr9) rfl rfl (by kernel_rfl) (by kernel_rfl) (by kernel_rfl) (fun _ _ _ h => h) (by rfl) ?hyr9 (by with_reducible exact hHeld) ?restr9
      case hyr9 => (intro wS hSw; (try dsimp only at hSw); go_simp; try with_reducible rfl)
      try simp only [Act.put, List.setIfInBounds_toArray, List.set_cons_zero, List.set_cons_succ]
      refine take_on (i := 10) (some 98) (v := ?vr10) rfl rfl (by kernel_rfl) (by kernel_rfl) (by kernel_rfl) (fun _ _ _ h => h) (by rfl) ?hyr10 (by with_reducible exact hHeld) ?restr10
      case hyr10 => (intro wS hSw; (try dsimp only at hSw); go_simp; try with_reducible rfl)
      try simp only [Act.put, List.setIfInBounds_toArray, List.set_cons_zero, List.set_cons_succ]
      refine wpAnyH_ready (rs := [11]) (by kernel_rfl) (by simp) ?_
      refine AllReadyH.cons rfl (fun K hK => ?_) AllReadyH.nil
      go_simp
      refine hK.out _ _ (SF3.out) (fun hHeld => ?_)
      clear hK K
      try simp only [Act.put, List.setIfInBounds_toArray, List.set_cons_zero, List.set_cons_succ]
      refine wpAnyH_done (by kernel_rfl) ?_ _
      refine NoPanic.normal ?_
      have HS5 := Lib.hid (HSP.out.congr (L' := LdL (pa.1 (x * 2 + 1)) ((pa.1 (x * 2)).map (·.1))) fun j hj => by
        match j, hj with
        | 0, _ => rw [F3.out.2.2]; rfl
        | 1, _ => rw [F3.out.2.2]; rfl
        | 2, _ =>
          show ((L (x * 2)).map (·.1)) ++ [owner] = (pa.1 (x * 2)).map (·.1)
          rw [F3.out.2.1]
          simp)
      have HB5 := Lib.hid (BB.out.trans (HS.out.bel HC2.out))
      have HT5 := Lib.hid (HT.out.keepL HS.out HC2.out)
      clear HSP HC2 HFP
      go_wp2
      go_ret
      exact ⟨rfl, HB5.out, V5, _, pa.1, pa.2.1, HT5.out, HS5.out, IA.out, by rw [F3.out.2.1, F3.out.2.2, List.append_assoc]; rw [show [(owner, 1)] ++ L (x * 2 + 1) = L (x * 2 + 1) ++ [(owner, 1)] from by rw [F3.out.1]; rfl]; exact nodup_add S1.out.nod hh hw⟩
  · obtain ⟨pa, hpa⟩ : ∃ pa, pa = acqT n L wait 512 (x : Int) 1 owner := ⟨_, rfl⟩
    have ga := fun w0 h0 => acquireM_any base T E n 512 (x : Int) 1 owner V wait L w0 h0 hn ba bc
    have IA := Lib.hid (acq_inv (most := 512) (ex := (x : Int)) (mode := 1) (owner := owner) S1.out.inv)
    rw [← hpa] at IA HA
    simp only [← hpa] at ga
    obtain ⟨f1, f2, f3⟩ := HA
    have hb1 : decide (owner ∈ LdL (L (x * 2 + 1)) ((L (x * 2)).map (·.1)) 0) = false := decide_eq_false hw
    simp only [hb1] at gw
    have hb2 : decide (owner ∈ LdL (L (x * 2 + 1)) ((L (x * 2)).map (·.1)) 2) = false := decide_eq_false hh
    simp only [hb2] at gh
    have GW := Lib.hid gw
    have GH := Lib.hid gh
    clear gw gh
    go_enter Try.func15, Try.ntmps15
    go_wp2_with fail
    go_quiet ((first | (go_at_call 24; with_reducible exact quiet_left (GW.out _)) | (go_at_call 24; with_reducible exact quiet_left (GH.out _))))
    go_wp2_with fail
    obtain ⟨w1, hw1⟩ : ∃ w1, w1 = (w.alloc (.cells #[.int .i64 1, .bool sec, .int .i64 (x : Int), .int .i64 1, .int .i64 owner] 33)).drewN nq := ⟨_, rfl⟩
    rw [← hw1]
    have S2 := Lib.hid (show FairS base w1 T E n Q x i V L wait VL from by rw [hw1]; exact S1.out.below (below_drewN (Below.refl _ _) nq))
    have Z2 := Lib.hid (show Blk w1 w.heap.size 33 #[.int .i64 1, .bool sec, .int .i64 (x : Int), .int .i64 1, .int .i64 owner] from by rw [hw1]; exact Z1.out)
    have B2 := Lib.hid (show Below base w w1 from by rw [hw1]; exact below_drewN BB1.out nq)
    clear hw1 m0 m2 m3 m4 x0 x2 GW GH
    have gA := ga w1 S2.out.tab
    rw [f1, f2] at gA
    have GA := Lib.hid gA
    clear ga gA
    refine GA.out.mono ?_
    rintro e w2 ⟨rfl, V5, hT5, hC5, hF5⟩
    have HT := Lib.hid hT5
    have HC := Lib.hid hC5
    have BB := Lib.hid (B2.out.trans (S2.out.tab.bel hC5))
    have HL := Lib.hid (S2.out.led.keepT S2.out.tab hC5)
    have Z3 := Lib.hid (hC5.blk Z2.out fun j hf => by
        rcases hf with hf | hf | ⟨j, hj, hf⟩
        · exact blk_type_ne Z2.out S2.out.tab.tb (by decide) hf
        · exact blk_type_ne Z2.out S2.out.tab.ex (by decide) hf
        · obtain ⟨_, cs, hb⟩ := (S2.out.tab.own j hj).blk hf
          exact blk_type_ne Z2.out hb (by decide) rfl)
    have y0 := HL.out.cell (i := 0) (by omega)
    have y2 := HL.out.cell (i := 2) (by omega)
    rw [E0.out] at y0
    rw [E2.out] at y2
    have v3 : w2.cell? ⟨w.heap.size, 3, none⟩ = some (.int .i64 1) := Z3.out.cell 3
    have v4 : w2.cell? ⟨w.heap.size, 4, none⟩ = some (.int .i64 owner) := Z3.out.cell 4
    have F3 := Lib.hid f3
    clear GA hT5 hC5 hF5 f1 f2 f3
    have hhz : ((hn2 : Int) == 0) = false := by have := List.length_pos_iff.2 F3.out.1; have h5 := LH.out; rw [beq_eq_false_iff_ne]; omega
    have hhz2 : hn2 ≠ 0 := by have := List.length_pos_iff.2 F3.out.1; have h5 := LH.out; omega
    go_wp2_with (first | (go_at_call 18; (with_reducible refine (num_any _ _).mono ?_); rintro e w' ⟨rfl, rfl⟩))
    obtain ⟨A0', c0', e0', G0', _⟩ := HL.out.own 0 (by omega)
    rw [E0.out] at e0'
    injection e0' with h1 h2 h3
    subst h1
    subst h3
    have HS := HL
    have VI := E0
    have LI := Lib.hid (show LdL (L (x * 2 + 1)) ((L (x * 2)).map (·.1)) 0 = ((L (x * 2 + 1)).map (·.1)) from rfl)
    have LN := Lib.hid (show (((L (x * 2 + 1)).map (·.1))).length = rn from h2.symm)
    have GG := Lib.hid G0'
    have SRC := Lib.hid (show w2.cell? ⟨w.heap.size, 4, none⟩ = some (.int .i64 owner) ∧ ∀ j : Nat, ¬ LdF Q VL w.heap.size from ⟨v4, fun _ hf => by
      obtain ⟨_, t, cs, hb, hty⟩ := HL.out.typ hf
      exact blk_type_ne hb Z3.out (by rcases hty with rfl | rfl <;> decide) rfl⟩)
    have hbd : rn + 1 ≤ 8000001000001 := by omega
    clear G0' h2 HL hhz hhz2
    go_cut [] (fun wx => ∃ V' : Nat → Value, LdS base wx Q V' (upd (LdL (L (x * 2 + 1)) ((L (x * 2)).map (·.1))) 0 (((L (x * 2 + 1)).map (·.1)) ++ [owner])) ∧ Chg (fun k _ => LdF Q VL k) w2 wx ∧ (∀ k, LdF Q V' k → LdF Q VL k ∨ w2.heap.size ≤ k))
    case first =>
      have Sa := Lib.hid (HS.out.below (((Below.refl w2.heap.size w2).alloc (Nat.le_refl _) (.cells #[.int .i64 owner] 3)).drew))
      have Ga := Lib.hid (show GSl enc1 1 3 (w2.alloc (.cells #[.int .i64 owner] 3)).drew A0 c0 ((L (x * 2 + 1)).map (·.1)) from GG.out.chg ((Chg.alloc (fun _ _ => False) w2 (.cells #[.int .i64 owner] 3)).drew) enc1_len fun _ _ _ h => h)
      have Rn := Lib.hid (show RdS enc1 1 (w2.alloc (.cells #[.int .i64 owner] 3)).drew (some ⟨w2.heap.size, 0, none⟩) [owner] from (RdS.new1 enc1 1 w2 3 owner))
      have cq0 : w2.drew.cell? ⟨Q, 0, none⟩ = some (.slice A0 rn c0) := by show w2.cell? _ = _; rw [HS.out.cell (by omega), VI.out]
      have cq1 : (w2.alloc (.cells #[.int .i64 owner] 3)).drew.cell? ⟨Q, 0, none⟩ = some (.slice A0 rn c0) := by rw [Sa.out.cell (by omega), VI.out]
      have SF0 := Lib.hid (show w2.drew.cell? ⟨w.heap.size, 4, none⟩ = some (.int .i64 owner) from SRC.out.1)
      have SFa := Lib.hid (show (w2.alloc (.cells #[.int .i64 owner] 3)).drew.cell? ⟨w.heap.size, 4, none⟩ = some (.int .i64 owner) from ((Chg.alloc (fun _ _ => False) w2 (.cells #[.int .i64 owner] 3)).drew).cellp (fun _ h => h) SRC.out.1)
      refine wp_region_noPanic ?_
      refine wp_region_held_drew (S := fun w' => w'.cell? ⟨w.heap.size, 4, none⟩ = some (.int .i64 owner)) (by kernel_rfl) (SF0.out) (fun hHeld => ?_)
      refine take_on (i := 0) (some 99) (v := ?vr11) rfl rfl (by kernel_rfl) (by kernel_rfl) (by kernel_rfl) (fun _ _ _ h => h) (by rfl) ?hyr11 (by with_reducible exact hHeld) ?restr11
      case hyr11 => (intro wS hSw; (try dsimp only at hSw); go_simp; try with_reducible rfl)
      try simp only [Act.put, List.setIfInBounds_toArray, List.set_cons_zero, List.set_cons_succ]
      refine take_on (i := 1) (some 100) (v := ?vr12) rfl rfl (by kernel_rfl) (by kernel_rfl) (by kernel_rfl) (fun _ _ _ h => h) (by rfl) ?hyr12 (by with_reducible exact hHeld) ?restr12
      case hyr12 => (intro wS hSw; (try dsimp only at hSw); go_simp; try with_reducible rfl)
      try simp only [Act.put, List.setIfInBounds_toArray, List.set_cons_zero, List.set_cons_succ]
      refine take_on (i := 2) (some 101) (v := ?vr13) rfl rfl (by kernel_rfl) (by kernel_rfl) (by kernel_rfl) (fun _ _ _ h => h) (by rfl) ?hyr13 (by with_reducible exact hHeld) ?restr13
      case hyr13 => (intro wS hSw; (try dsimp only at hSw); go_simp; try with_reducible rfl)
      try simp only [Act.put, List.setIfInBounds_toArray, List.set_cons_zero, List.set_cons_succ]
      refine take_on (i := 3) (some 102) (v := ?vr14) rfl rfl (by kernel_rfl) (by kernel_rfl) (by kernel_rfl) (fun _ _ _ h => h) (by rfl) ?hyr14 (by with_reducible exact hHeld) ?restr14
      case hyr14 => (intro wS hSw; (try dsimp only at hSw); go_simp; try with_reducible rfl)
      try simp only [Act.put, List.setIfInBounds_toArray, List.set_cons_zero, List.set_cons_succ]
      refine take_on (i := 5) (some 104) (v := ?vr15) rfl rfl (by kernel_rfl) (by kernel_rfl) (by kernel_rfl) (fun _ _ _ h => h) (by rfl) ?hyr15 (by with_reducible exact hHeld) ?restr15
      case hyr15 => (intro wS hSw; (try dsimp only at hSw); go_simp; try with_reducible rfl)
      try simp only [Act.put, List.setIfInBounds_toArray, List.set_cons_zero, List.set_cons_succ]
      refine take_on (i := 6) (some 105) (v := ?vr16) rfl rfl (by kernel_rfl) (by kernel_rfl) (by kernel_rfl) (fun _ _ _ h => h) (by rfl) ?hyr16 (by with_reducible exact hHeld) ?restr16
      case hyr16 => (intro wS hSw; (try dsimp only at hSw); go_simp; try with_reducible rfl)
      try simp only [Act.put, List.setIfInBounds_toArray, List.set_cons_zero, List.set_cons_succ]
      refine wpAnyH_ready (rs := [4, 7]) (by kernel_rfl) (by simp) ?_
      refine AllReadyH.cons rfl (fun K hK => ?_) ?_
      · go_simp
        refine hK.out _ _ (SF0.out) (fun hHeld => ?_)
        clear hK K
        try simp only [Act.put, List.setIfInBounds_toArray, List.set_cons_zero, List.set_cons_succ]
        refine wpAnyH_ready (rs := [7]) (by kernel_rfl) (by simp) ?_
        refine AllReadyH.cons rfl (fun K hK => ?_) AllReadyH.nil
        go_simp
        refine hK.out _ _ (SFa.out) (fun hHeld => ?_)
        clear hK K
        try simp only [Act.put, List.setIfInBounds_toArray, List.set_cons_zero, List.set_cons_succ]
        refine wpAnyH_ready (rs := [8]) (by kernel_rfl) (by simp) ?_
        refine AllReadyH.cons rfl (fun K hK => ?_) AllReadyH.nil
        refine step_appendG intTy (by decide) enc1_len enc1_one (by rfl) (.tmp 103) (.tmp 106) (by rfl) A0 c0 ((L (x * 2 + 1)).map (·.1)) (by rw [LN.out]; rfl) Ga.out (some ⟨w2.heap.size, 0, none⟩) 1 [owner] (by rfl) Rn.out (by rw [LN.out]; simp only [maxLen, List.length_singleton]; omega) (by rw [LN.out]; simp only [List.length_singleton]; omega) ?_
        intro A' c' wz h4 k4 q4
        have hlp : (((L (x * 2 + 1)).map (·.1)) ++ [owner]).length = rn + 1 := by rw [List.length_append, LN.out]; rfl
        obtain ⟨SP, CP, CP2, FP, cq2, fq2⟩ := Sa.out.app (i := 0) (by omega) LI.out (by rw [LN.out]; exact VI.out) h4 k4 q4
        rw [hlp] at SP CP2 FP ⊢
        rw [VI.out] at cq2
        have SF2 := Lib.hid (CP.cellp SRC.out.2 SFa.out)
        have SF3 := Lib.hid (CP2.cellp SRC.out.2 SFa.out)
        have HSP := Lib.hid SP
        have HC2 := Lib.hid (((Chg.alloc (fun k _ => LdF Q VL k) w2 (.cells #[.int .i64 owner] 3)).drew).trans CP2 fun _ _ _ h => h)
        have HFP := Lib.hid (show ∀ k, LdF Q (upd VL 0 (.slice A' (rn + 1) c')) k → LdF Q VL k ∨ w2.heap.size ≤ k from fun k hk => (FP k hk).imp id fun h => Nat.le_trans (by simp [World.drew]) h)
        clear h4 k4 q4 hlp SP CP CP2 FP
        refine hK.out _ _ SF2.out (fun hHeld => ?_)
        clear hK K
        try simp only [Act.put, List.setIfInBounds_toArray, List.set_cons_zero, List.set_cons_succ]
        refine take_on (i := 9) (some 108) (v := ?vr17) rfl rfl (by kernel_rfl) (by kernel_rfl) (by kernel_rfl) (fun _ _ _ h => h) (by rfl) ?hyr17 (by with_reducible exact hHeld) ?restr17
        case hyr17 => (intro wS hSw; (try dsimp only at hSw); go_simp; try with_reducible rfl)
        try simp only [Act.put, List.setIfInBounds_toArray, List.set_cons_zero, List.set_cons_succ]
        refine take_on (i := 10) (some 109) (v := ?vr18) rfl rfl (by kernel_rfl) (by kernel_rfl) (by kernel_rfl) (fun _ _ _ h => h) (by rfl) ?hyr18 (by with_reducible exact hHeld) ?restr18
        case hyr18 => (intro wS hSw; (try dsimp only at hSw); go_simp; try with_reducible rfl)
        try simp only [Act.put, List.setIfInBounds_toArray, List.set_cons_zero, List.set_cons_succ]
        refine wpAnyH_ready (rs := [11]) (by kernel_rfl) (by simp) ?_
        refine AllReadyH.cons rfl (fun K hK => ?_) AllReadyH.nil
        go_simp
        refine hK.out _ _ (SF3.out) (fun hHeld => ?_)
        clear hK K
        try simp only [Act.put, List.setIfInBounds_toArray, List.set_cons_zero, List.set_cons_succ]
        refine wpAnyH_done (by kernel_rfl) ?_ _
        refine NoPanic.normal ?_
        go_wp2
        go_meet
        exact ⟨_, HSP.out, HC2.out, HFP.out⟩
      · refine AllReadyH.cons rfl (fun K hK => ?_) AllReadyH.nil
        go_simp
        refine hK.out _ _ (SFa.out) (fun hHeld => ?_)
        clear hK K
        try simp only [Act.put, List.setIfInBounds_toArray, List.set_cons_zero, List.set_cons_succ]
        refine wpAnyH_ready (rs := [4]) (by kernel_rfl) (by simp) ?_
        refine AllReadyH.cons rfl (fun K hK => ?_) AllReadyH.nil
        go_simp
        refine hK.out _ _ (SFa.out) (fun hHeld => ?_)
        clear hK K
        try simp only [Act.put, List.setIfInBounds_toArray, List.set_cons_zero, List.set_cons_succ]
        refine wpAnyH_ready (rs := [8]) (by kernel_rfl) (by simp) ?_
        refine AllReadyH.cons rfl (fun K hK => ?_) AllReadyH.nil
        refine step_appendG intTy (by decide) enc1_len enc1_one (by rfl) (.tmp 103) (.tmp 106) (by rfl) A0 c0 ((L (x * 2 + 1)).map (·.1)) (by rw [LN.out]; rfl) Ga.out (some ⟨w2.heap.size, 0, none⟩) 1 [owner] (by rfl) Rn.out (by rw [LN.out]; simp only [maxLen, List.length_singleton]; omega) (by rw [LN.out]; simp only [List.length_singleton]; omega) ?_
        intro A' c' wz h4 k4 q4
        have hlp : (((L (x * 2 + 1)).map (·.1)) ++ [owner]).length = rn + 1 := by rw [List.length_append, LN.out]; rfl
        obtain ⟨SP, CP, CP2, FP, cq2, fq2⟩ := Sa.out.app (i := 0) (by omega) LI.out (by rw [LN.out]; exact VI.out) h4 k4 q4
        rw [hlp] at SP CP2 FP ⊢
        rw [VI.out] at cq2
        have SF2 := Lib.hid (CP.cellp SRC.out.2 SFa.out)
        have SF3 := Lib.hid (CP2.cellp SRC.out.2 SFa.out)
        have HSP := Lib.hid SP
        have HC2 := Lib.hid (((Chg.alloc (fun k _ => LdF Q VL k) w2 (.cells #[.int .i64 owner] 3)).drew).trans CP2 fun _ _ _ h => h)
        have HFP := Lib.hid (show ∀ k, LdF Q (upd VL 0 (.slice A' (rn + 1) c')) k → LdF Q VL k ∨ w2.heap.size ≤ k from fun k hk => (FP k hk).imp id fun h => Nat.le_trans (by simp [World.drew]) h)
        clear h4 k4 q4 hlp SP CP CP2 FP
        refine hK.out _ _ SF2.out (fun hHeld => ?_)
        clear hK K
        try simp only [Act.put, List.setIfInBounds_toArray, List.set_cons_zero, List.set_cons_succ]
        refine take_on (i := 9) (some 108) (v := ?vr19) rfl rfl (by kernel_rfl) (by kernel_rfl) (by kernel_rfl) (fun _ _ _ h => h) (by rfl) ?hyr19 (by with_reducible exact hHeld) ?restr19
        case hyr19 => (intro wS hSw; (try dsimp only at hSw); go_simp; try with_reducible rfl)
        try simp only [Act.put, List.setIfInBounds_toArray, List.set_cons_zero, List.set_cons_succ]
        refine take_on (i := 10) (some 109) (v := ?vr20) rfl rfl (by kernel_rfl) (by kernel_rfl) (by kernel_rfl) (fun _ _ _ h => h) (by rfl) ?hyr20 (by with_reducible exact hHeld) ?restr20
        case hyr20 => (intro wS hSw; (try dsimp only at hSw); go_simp; try with_reducible rfl)
        try simp only [Act.put, List.setIfInBounds_toArray, List.set_cons_zero, List.set_cons_succ]
        refine wpAnyH_ready (rs := [11]) (by kernel_rfl) (by simp) ?_
        refine AllReadyH.cons rfl (fun K hK => ?_) AllReadyH.nil
        go_simp
        refine hK.out _ _ (SF3.out) (fun hHeld => ?_)
        clear hK K
        try simp only [Act.put, List.setIfInBounds_toArray, List.set_cons_zero, List.set_cons_succ]
        refine wpAnyH_done (by kernel_rfl) ?_ _
        refine NoPanic.normal ?_
        go_wp2
        go_meet
        exact ⟨_, HSP.out, HC2.out, HFP.out⟩
    case rest =>
      obtain ⟨V6, hS6, hC6, hF6⟩ := hcut
      have HB6 := Lib.hid (BB.out.trans (HS.out.bel hC6))
      have HT6 := Lib.hid (HT.out.keepL HS.out hC6)
      have Z4 := Lib.hid (hC6.blk Z3.out fun j hf => SRC.out.2 0 hf)
      have v3' : wc.cell? ⟨w.heap.size, 3, none⟩ = some (.int .i64 1) := Z4.out.cell 3
      clear HT BB HS SRC VI LI LN GG v3 v4 y0 y2 hC6
      obtain ⟨A1, c1, e1, G1, _⟩ := hS6.own 1 (by omega)
      have y1 := hS6.cell (i := 1) (by omega)
      have e1 : V6 1 = .slice A1 rn c1 := by rw [e1, LR.out]; congr 1; exact List.length_map _
      rw [e1] at y1
      have HS := Lib.hid hS6
      have VI := Lib.hid e1
      have LI := Lib.hid (show upd (LdL (L (x * 2 + 1)) ((L (x * 2)).map (·.1))) 0 (((L (x * 2 + 1)).map (·.1)) ++ [owner]) 1 = ((L (x * 2 + 1)).map (·.2)) from rfl)
      have LN := Lib.hid (show (((L (x * 2 + 1)).map (·.2))).length = rn by rw [LR.out]; exact List.length_map _)
      have GG := Lib.hid (show GSl enc1 1 3 wc A1 c1 ((L (x * 2 + 1)).map (·.2)) from G1)
      have SRC := Lib.hid (show wc.cell? ⟨w.heap.size, 3, none⟩ = some (.int .i64 1) ∧ ∀ j : Nat, ¬ LdF Q V6 w.heap.size from ⟨v3', fun _ hf => by
        obtain ⟨_, t, cs, hb, hty⟩ := hS6.typ hf
        exact blk_type_ne hb Z4.out (by rcases hty with rfl | rfl <;> decide) rfl⟩)
      clear hS6 hF6 e1 G1
      go_wp2_with fail
      have Sa := Lib.hid (HS.out.below (((Below.refl wc.heap.size wc).alloc (Nat.le_refl _) (.cells #[.int .i64 (1 : Int)] 3)).drew))
      have Ga := Lib.hid (show GSl enc1 1 3 (wc.alloc (.cells #[.int .i64 (1 : Int)] 3)).drew A1 c1 ((L (x * 2 + 1)).map (·.2)) from GG.out.chg ((Chg.alloc (fun _ _ => False) wc (.cells #[.int .i64 (1 : Int)] 3)).drew) enc1_len fun _ _ _ h => h)
      have Rn := Lib.hid (show RdS enc1 1 (wc.alloc (.cells #[.int .i64 (1 : Int)] 3)).drew (some ⟨wc.heap.size, 0, none⟩) [(1 : Int)] from (RdS.new1 enc1 1 wc 3 (1 : Int)))
      have cq0 : wc.drew.cell? ⟨Q, 1, none⟩ = some (.slice A1 rn c1) := by show wc.cell? _ = _; rw [HS.out.cell (by omega), VI.out]
      have cq1 : (wc.alloc (.cells #[.int .i64 (1 : Int)] 3)).drew.cell? ⟨Q, 1, none⟩ = some (.slice A1 rn c1) := by rw [Sa.out.cell (by omega), VI.out]
      have SF0 := Lib.hid (show wc.drew.cell? ⟨w.heap.size, 3, none⟩ = some (.int .i64 (1 : Int)) from SRC.out.1)
      have SFa := Lib.hid (show (wc.alloc (.cells #[.int .i64 (1 : Int)] 3)).drew.cell? ⟨w.heap.size, 3, none⟩ = some (.int .i64 (1 : Int)) from ((Chg.alloc (fun _ _ => False) wc (.cells #[.int .i64 (1 : Int)] 3)).drew).cellp (fun _ h => h) SRC.out.1)
      refine wp_region_noPanic ?_
      refine wp_region_held_drew (S := fun w' => w'.cell? ⟨w.heap.size, 3, none⟩ = some (.int .i64 (1 : Int))) (by kernel_rfl) (SF0.out) (fun hHeld => ?_)
      refine take_on (i := 0) (some 110) (v := ?vr21) rfl rfl (by kernel_rfl) (by kernel_rfl) (by kernel_rfl) (fun _ _ _ h => h) (by rfl) ?hyr21 (by with_reducible exact hHeld) ?restr21
      case hyr21 => (intro wS hSw; (try dsimp only at hSw); go_simp; try with_reducible rfl)
      try simp only [Act.put, List.setIfInBounds_toArray, List.set_cons_zero, List.set_cons_succ]
      refine take_on (i := 1) (some 111) (v := ?vr22) rfl rfl (by kernel_rfl) (by kernel_rfl) (by kernel_rfl) (fun _ _ _ h => h) (by rfl) ?hyr22 (by with_reducible exact hHeld) ?restr22
      case hyr22 => (intro wS hSw; (try dsimp only at hSw); go_simp; try with_reducible rfl)
      try simp only [Act.put, List.setIfInBounds_toArray, List.set_cons_zero, List.set_cons_succ]
      refine take_on (i := 2) (some 112) (v := ?vr23) rfl rfl (by kernel_rfl) (by kernel_rfl) (by kernel_rfl) (fun _ _ _ h => h) (by rfl) ?hyr23 (by with_reducible exact hHeld) ?restr23
      case hyr23 => (intro wS hSw; (try dsimp only at hSw); go_simp; try with_reducible rfl)
      try simp only [Act.put, List.setIfInBounds_toArray, List.set_cons_zero, List.set_cons_succ]
      refine take_on (i := 3) (some 113) (v := ?vr24) rfl rfl (by kernel_rfl) (by kernel_rfl) (by kernel_rfl) (fun _ _ _ h => h) (by rfl) ?hyr24 (by with_reducible exact hHeld) ?restr24
      case hyr24 => (intro wS hSw; (try dsimp only at hSw); go_simp; try with_reducible rfl)
      try simp only [Act.put, List.setIfInBounds_toArray, List.set_cons_zero, List.set_cons_succ]
      refine take_on (i := 5) (some 115) (v := ?vr25) rfl rfl (by kernel_rfl) (by kernel_rfl) (by kernel_rfl) (fun _ _ _ h => h) (by rfl) ?hyr25 (by with_reducible exact hHeld) ?restr25
      case hyr25 => (intro wS hSw; (try dsimp only at hSw); go_simp; try with_reducible rfl)
      try simp only [Act.put, List.setIfInBounds_toArray, List.set_cons_zero, List.set_cons_succ]
      refine take_on (i := 6) (some 116) (v := ?vr26) rfl rfl (by kernel_rfl) (by kernel_rfl) (by kernel_rfl) (fun _ _ _ h => h) (by rfl) ?hyr26 (by with_reducible exact hHeld) ?restr26
      case hyr26 => (intro wS hSw; (try dsimp only at hSw); go_simp; try with_reducible rfl)
      try simp only [Act.put, List.setIfInBounds_toArray, List.set_cons_zero, List.set_cons_succ]
      refine wpAnyH_ready (rs := [4, 7]) (by kernel_rfl) (by simp) ?_
      refine AllReadyH.cons rfl (fun K hK => ?_) ?_
      · go_simp
        refine hK.out _ _ (SF0.out) (fun hHeld => ?_)
        clear hK K
        try simp only [Act.put, List.setIfInBounds_toArray, List.set_cons_zero, List.set_cons_succ]
        refine wpAnyH_ready (rs := [7]) (by kernel_rfl) (by simp) ?_
        refine AllReadyH.cons rfl (fun K hK => ?_) AllReadyH.nil
        go_simp
        refine hK.out _ _ (SFa.out) (fun hHeld => ?_)
        clear hK K
        try simp only [Act.put, List.setIfInBounds_toArray, List.set_cons_zero, List.set_cons_succ]
        refine wpAnyH_ready (rs := [8]) (by kernel_rfl) (by simp) ?_
        refine AllReadyH.cons rfl (fun K hK => ?_) AllReadyH.nil
        refine step_appendG intTy (by decide) enc1_len enc1_one (by rfl) (.tmp 114) (.tmp 117) (by rfl) A1 c1 ((L (x * 2 + 1)).map (·.2)) (by rw [LN.out]; rfl) Ga.out (some ⟨wc.heap.size, 0, none⟩) 1 [(1 : Int)] (by rfl) Rn.out (by rw [LN.out]; simp only [maxLen, List.length_singleton]; omega) (by rw [LN.out]; simp only [List.length_singleton]; omega) ?_
        intro A' c' wz h4 k4 q4
        have hlp : (((L (x * 2 + 1)).map (·.2)) ++ [(1 : Int)]).length = rn + 1 := by rw [List.length_append, LN.out]; rfl
        obtain ⟨SP, CP, CP2, FP, cq2, fq2⟩ := Sa.out.app (i := 1) (by omega) LI.out (by rw [LN.out]; exact VI.out) h4 k4 q4
        rw [hlp] at SP CP2 FP ⊢
        rw [VI.out] at cq2
        have SF2 := Lib.hid (CP.cellp SRC.out.2 SFa.out)
        have SF3 := Lib.hid (CP2.cellp SRC.out.2 SFa.out)
        have HSP := Lib.hid SP
        have HC2 := Lib.hid (((Chg.alloc (fun k _ => LdF Q V6 k) wc (.cells #[.int .i64 (1 : Int)] 3)).drew).trans CP2 fun _ _ _ h => h)
        have HFP := Lib.hid (show ∀ k, LdF Q (upd V6 1 (.slice A' (rn + 1) c')) k → LdF Q V6 k ∨ wc.heap.size ≤ k from fun k hk => (FP k hk).imp id fun h => Nat.le_trans (by simp [World.drew]) h)
        clear h4 k4 q4 hlp SP CP CP2 FP
        refine hK.out _ _ SF2.out (fun hHeld => ?_)
        clear hK K
        try simp only [Act.put, List.setIfInBounds_toArray, List.set_cons_zero, List.set_cons_succ]
        refine take_on (i := 9) (some 119) (v := ?vr27) rfl rfl (by kernel_rfl) (by kernel_rfl) (by kernel_rfl) (fun _ _ _ h => h) (by rfl) ?hyr27 (by with_reducible exact hHeld) ?restr27
        case hyr27 => (intro wS hSw; (try dsimp only at hSw); go_simp; try with_reducible rfl)
        try simp only [Act.put, List.setIfInBounds_toArray, List.set_cons_zero, List.set_cons_succ]
        refine take_on (i := 10) (some 120) (v := ?vr28) rfl rfl (by kernel_rfl) (by kernel_rfl) (by kernel_rfl) (fun _ _ _ h => h) (by rfl) ?hyr28 (by with_reducible exact hHeld) ?restr28
        case hyr28 => (intro wS hSw; (try dsimp only at hSw); go_simp; try with_reducible rfl)
        try simp only [Act.put, List.setIfInBounds_toArray, List.set_cons_zero, List.set_cons_succ]
        refine wpAnyH_ready (rs := [11]) (by kernel_rfl) (by simp) ?_
        refine AllReadyH.cons rfl (fun K hK => ?_) AllReadyH.nil
        go_simp
        refine hK.out _ _ (SF3.out) (fun hHeld => ?_)
        clear hK K
        try simp only [Act.put, List.setIfInBounds_toArray, List.set_cons_zero, List.set_cons_succ]
        refine wpAnyH_done (by kernel_rfl) ?_ _
        refine NoPanic.normal ?_
        have HS5 := Lib.hid (HSP.out.congr (L' := LdL (pa.1 (x * 2 + 1)) ((pa.1 (x * 2)).map (·.1))) fun j hj => by
          match j, hj with
          | 0, _ =>
            show ((L (x * 2 + 1)).map (·.1)) ++ [owner] = (pa.1 (x * 2 + 1)).map (·.1)
            rw [F3.out.2.2]
            simp
          | 1, _ =>
            show ((L (x * 2 + 1)).map (·.2)) ++ [(1 : Int)] = (pa.1 (x * 2 + 1)).map (·.2)
            rw [F3.out.2.2]
            simp
          | 2, _ => rw [F3.out.2.1]; rfl)
        have HB5 := Lib.hid (HB6.out.trans (HS.out.bel HC2.out))
        have HT5 := Lib.hid (HT6.out.keepL HS.out HC2.out)
        clear HSP HC2 HFP
        go_wp2
        go_ret
        exact ⟨rfl, HB5.out, V5, _, pa.1, pa.2.1, HT5.out, HS5.out, IA.out, by rw [F3.out.2.1, F3.out.2.2]; exact nodup_add S1.out.nod hh hw⟩
      · refine AllReadyH.cons rfl (fun K hK => ?_) AllReadyH.nil
        go_simp
        refine hK.out _ _ (SFa.out) (fun hHeld => ?_)
        clear hK K
        try simp only [Act.put, List.setIfInBounds_toArray, List.set_cons_zero, List.set_cons_succ]
        refine wpAnyH_ready (rs := [4]) (by kernel_rfl) (by simp) ?_
        refine AllReadyH.cons rfl (fun K hK => ?_) AllReadyH.nil
        go_simp
        refine hK.out _ _ (SFa.out) (fun hHeld => ?_)
        clear hK K
        try simp only [Act.put, List.setIfInBounds_toArray, List.set_cons_zero, List.set_cons_succ]
        refine wpAnyH_ready (rs := [8]) (by kernel_rfl) (by simp) ?_
        refine AllReadyH.cons rfl (fun K hK => ?_) AllReadyH.nil
        refine step_appendG intTy (by decide) enc1_len enc1_one (by rfl) (.tmp 114) (.tmp 117) (by rfl) A1 c1 ((L (x * 2 + 1)).map (·.2)) (by rw [LN.out]; rfl) Ga.out (some ⟨wc.heap.size, 0, none⟩) 1 [(1 : Int)] (by rfl) Rn.out (by rw [LN.out]; simp only [maxLen, List.length_singleton]; omega) (by rw [LN.out]; simp only [List.length_singleton]; omega) ?_
        intro A' c' wz h4 k4 q4
        have hlp : (((L (x * 2 + 1)).map (·.2)) ++ [(1 : Int)]).length = rn + 1 := by rw [List.length_append, LN.out]; rfl
        obtain ⟨SP, CP, CP2, FP, cq2, fq2⟩ := Sa.out.app (i := 1) (by omega) LI.out (by rw [LN.out]; exact VI.out) h4 k4 q4
        rw [hlp] at SP CP2 FP ⊢
        rw [VI.out] at cq2
        have SF2 := Lib.hid (CP.cellp SRC.out.2 SFa.out)
        have SF3 := Lib.hid (CP2.cellp SRC.out.2 SFa.out)
        have HSP := Lib.hid SP
        have HC2 := Lib.hid (((Chg.alloc (fun k _ => LdF Q V6 k) wc (.cells #[.int .i64 (1 : Int)] 3)).drew).trans CP2 fun _ _ _ h => h)
        have HFP := Lib.hid (show ∀ k, LdF Q (upd V6 1 (.slice A' (rn + 1) c')) k → LdF Q V6 k ∨ wc.heap.size ≤ k from fun k hk => (FP k hk).imp id fun h => Nat.le_trans (by simp [World.drew]) h)
        clear h4 k4 q4 hlp SP CP CP2 FP
        refine hK.out _ _ SF2.out (fun hHeld => ?_)
        clear hK K
        try simp only [Act.put, List.setIfInBounds_toArray, List.set_cons_zero, List.set_cons_succ]
        refine take_on (i := 9) (some 119) (v := ?vr29) rfl rfl (by kernel_rfl) (by kernel_rfl) (by kernel_rfl) (fun _ _ _ h => h) (by rfl) ?hyr29 (by with_reducible exact hHeld) ?restr29
        case hyr29 => (intro wS hSw; (try dsimp only at hSw); go_simp; try with_reducible rfl)
        try simp only [Act.put, List.setIfInBounds_toArray, List.set_cons_zero, List.set_cons_succ]
        refine take_on (i := 10) (some 120) (v := ?vr30) rfl rfl (by kernel_rfl) (by kernel_rfl) (by kernel_rfl) (fun _ _ _ h => h) (by rfl) ?hyr30 (by with_reducible exact hHeld) ?restr30
        case hyr30 => (intro wS hSw; (try dsimp only at hSw); go_simp; try with_reducible rfl)
        try simp only [Act.put, List.setIfInBounds_toArray, List.set_cons_zero, List.set_cons_succ]
        refine wpAnyH_ready (rs := [11]) (by kernel_rfl) (by simp) ?_
        refine AllReadyH.cons rfl (fun K hK => ?_) AllReadyH.nil
        go_simp
        refine hK.out _ _ (SF3.out) (fun hHeld => ?_)
        clear hK K
        try simp only [Act.put, List.setIfInBounds_toArray, List.set_cons_zero, List.set_cons_succ]
        refine wpAnyH_done (by kernel_rfl) ?_ _
        refine NoPanic.normal ?_
        have HS5 := Lib.hid (HSP.out.congr (L' := LdL (pa.1 (x * 2 + 1)) ((pa.1 (x * 2)).map (·.1))) fun j hj => by
          match j, hj with
          | 0, _ =>
            show ((L (x * 2 + 1)).map (·.1)) ++ [owner] = (pa.1 (x * 2 + 1)).map (·.1)
            rw [F3.out.2.2]
            simp
          | 1, _ =>
            show ((L (x * 2 + 1)).map (·.2)) ++ [(1 : Int)] = (pa.1 (x * 2 + 1)).map (·.2)
            rw [F3.out.2.2]
            simp
          | 2, _ => rw [F3.out.2.1]; rfl)
        have HB5 := Lib.hid (HB6.out.trans (HS.out.bel HC2.out))
        have HT5 := Lib.hid (HT6.out.keepL HS.out HC2.out)
        clear HSP HC2 HFP
        go_wp2
        go_ret
        exact ⟨rfl, HB5.out, V5, _, pa.1, pa.2.1, HT5.out, HS5.out, IA.out, by rw [F3.out.2.1, F3.out.2.2]; exact nodup_add S1.out.nod hh hw⟩
set_option maxRecDepth 20000 in
set_option maxHeartbeats 16000000 in
theorem fair_acq2 (base T E n Q x i : Nat) ( owner : Int) (sec : Bool) (V VL : Nat → Value) (wait : Int) (L : Nat → List Pl) (w : World) (hx : x < n) (hn : n ≤ 4096) (hi : i < 512) (hS : FairS base w T E n Q x i V L wait VL) :
    Calls Try.prog 15 #[.pointer (some ⟨Q, 0, none⟩), .pointer (some ⟨T, 0, none⟩), .agg #[.int .i64 1, .bool sec, .int .i64 (x : Int), .int .i64 2, .int .i64 owner]] w fun e w' => e = .returned (.bool true) ∧ Below base w w' ∧ ∃ (V' VL' : Nat → Value) (L' : Nat → List Pl) (wait' : Int), FairS base w' T E n Q x (i + 1) V' L' wait' VL' := by
  have B1 := (Below.refl w.heap.size w).alloc (Nat.le_refl _) (.cells #[.int .i64 1, .bool sec, .int .i64 (x : Int), .int .i64 2, .int .i64 owner] 33)
  have S1 := Lib.hid (hS.below B1)
  have z1 := Blk.new w 33 #[.int .i64 1, .bool sec, .int .i64 (x : Int), .int .i64 2, .int .i64 owner]
  have hbw : base ≤ w.heap.size := Nat.le_trans hS.led.hQ (Nat.le_of_lt hS.led.blk.lt)
  have BB1 := Lib.hid (B1.mono hbw)
  obtain ⟨A0, c0, e0, r0⟩ := (S1.out.led.own 0 (by omega)).rd
  obtain ⟨A2, c2, e2, r2⟩ := (S1.out.led.own 2 (by omega)).rd
  have x0 := S1.out.led.cell (i := 0) (by omega)
  have x2 := S1.out.led.cell (i := 2) (by omega)
  rw [e0] at x0
  rw [e2] at x2
  obtain ⟨rn, hrn⟩ : ∃ k, k = (LdL (L (x * 2 + 1)) ((L (x * 2)).map (·.1)) 0).length := ⟨_, rfl⟩
  obtain ⟨hn2, hhn⟩ : ∃ k, k = (LdL (L (x * 2 + 1)) ((L (x * 2)).map (·.1)) 2).length := ⟨_, rfl⟩
  rw [← hrn] at x0
  rw [← hhn] at x2
  have i0 : x * 2 < 2 * n := by omega
  have i1 : x * 2 + 1 < 2 * n := by omega
  have lr : rn = (L (x * 2 + 1)).length := by rw [hrn]; exact List.length_map _
  have lh : hn2 = (L (x * 2)).length := by rw [hhn]; exact List.length_map _
  obtain ⟨ba, bb, bc, bd⟩ := hS.inv.bounds (Nat.le_of_lt hi)
  have bh2 := hS.inv.lens _ i0
  have bh3 := hS.inv.lens _ i1
  have rb : rn ≤ 512 := by omega
  have hb : hn2 ≤ 512 := by omega
  have gw := fun k => has_any A0 c0 rn (LdL (L (x * 2 + 1)) ((L (x * 2)).map (·.1)) 0) owner ((w.alloc (.cells #[.int .i64 1, .bool sec, .int .i64 (x : Int), .int .i64 2, .int .i64 owner] 33)).drewN k) hrn.symm (by omega) (r0.drewN k)
  have gh := fun k => has_any A2 c2 hn2 (LdL (L (x * 2 + 1)) ((L (x * 2)).map (·.1)) 2) owner ((w.alloc (.cells #[.int .i64 1, .bool sec, .int .i64 (x : Int), .int .i64 2, .int .i64 owner] 33)).drewN k) hhn.symm (by omega) (r2.drewN k)
  have Z1 := Lib.hid z1
  have E0 := Lib.hid (e0.trans (by rw [← hrn]))
  have E2 := Lib.hid (e2.trans (by rw [← hhn]))
  have LR := Lib.hid lr
  have LH := Lib.hid lh
  have BD := Lib.hid bd
  have m0 : (w.alloc (.cells #[.int .i64 1, .bool sec, .int .i64 (x : Int), .int .i64 2, .int .i64 owner] 33)).cell? ⟨w.heap.size, 0, none⟩ = some (.int .i64 1) := z1.cell 0
  have m2 : (w.alloc (.cells #[.int .i64 1, .bool sec, .int .i64 (x : Int), .int .i64 2, .int .i64 owner] 33)).cell? ⟨w.heap.size, 2, none⟩ = some (.int .i64 (x : Int)) := z1.cell 2
  have m3 : (w.alloc (.cells #[.int .i64 1, .bool sec, .int .i64 (x : Int), .int .i64 2, .int .i64 owner] 33)).cell? ⟨w.heap.size, 3, none⟩ = some (.int .i64 2) := z1.cell 3
  have m4 : (w.alloc (.cells #[.int .i64 1, .bool sec, .int .i64 (x : Int), .int .i64 2, .int .i64 owner] 33)).cell? ⟨w.heap.size, 4, none⟩ = some (.int .i64 owner) := z1.cell 4
  clear hS B1 z1 e0 e2 r0 r2 hrn hhn lr lh bd bh2 bh3
  have HA := acq_fair (owner := owner) hx S1.out.inv.hne (show (2 : Int) = 1 ∨ (2 : Int) = 2 by decide) BD.out
  rcases HA with ⟨ht, HA⟩ | ⟨⟨hh, hw⟩, HA⟩ | ⟨⟨hh, hw⟩, HA⟩
  · obtain ⟨pa, hpa⟩ : ∃ pa, pa = acqT n L wait 512 (x : Int) 2 owner := ⟨_, rfl⟩
    have ga := fun w0 h0 => acquireM_any base T E n 512 (x : Int) 2 owner V wait L w0 h0 hn ba bc
    have IA := Lib.hid (acq_inv (most := 512) (ex := (x : Int)) (mode := 2) (owner := owner) S1.out.inv)
    rw [← hpa] at IA HA
    simp only [← hpa] at ga
    obtain ⟨f1, f2, f3⟩ := HA
    by_cases hw : owner ∈ (L (x * 2 + 1)).map (·.1)
    · have hb1 : decide (owner ∈ LdL (L (x * 2 + 1)) ((L (x * 2)).map (·.1)) 0) = true := decide_eq_true hw
      simp only [hb1] at gw
      have GW := Lib.hid gw
      have GH := Lib.hid gh
      clear gw gh
      go_enter Try.func15, Try.ntmps15
      go_wp2_with fail
      go_quiet ((first | (go_at_call 24; with_reducible exact quiet_left (GW.out _)) | (go_at_call 24; with_reducible exact quiet_left (GH.out _))))
      go_wp2_with fail
      obtain ⟨w1, hw1⟩ : ∃ w1, w1 = (w.alloc (.cells #[.int .i64 1, .bool sec, .int .i64 (x : Int), .int .i64 2, .int .i64 owner] 33)).drewN nq := ⟨_, rfl⟩
      rw [← hw1]
      have S2 := Lib.hid (show FairS base w1 T E n Q x i V L wait VL from by rw [hw1]; exact S1.out.below (below_drewN (Below.refl _ _) nq))
      have Z2 := Lib.hid (show Blk w1 w.heap.size 33 #[.int .i64 1, .bool sec, .int .i64 (x : Int), .int .i64 2, .int .i64 owner] from by rw [hw1]; exact Z1.out)
      have B2 := Lib.hid (show Below base w w1 from by rw [hw1]; exact below_drewN BB1.out nq)
      clear hw1 m0 m2 m3 m4 x0 x2 GW GH
      have gA := ga w1 S2.out.tab
      rw [f1, f2] at gA
      have GA := Lib.hid gA
      clear ga gA
      refine GA.out.mono ?_
      rintro e w2 ⟨rfl, V5, hT5, hC5, hF5⟩
      have HT := Lib.hid hT5
      have HC := Lib.hid hC5
      have BB := Lib.hid (B2.out.trans (S2.out.tab.bel hC5))
      have HL := Lib.hid (S2.out.led.keepT S2.out.tab hC5)
      have Z3 := Lib.hid (hC5.blk Z2.out fun j hf => by
          rcases hf with hf | hf | ⟨j, hj, hf⟩
          · exact blk_type_ne Z2.out S2.out.tab.tb (by decide) hf
          · exact blk_type_ne Z2.out S2.out.tab.ex (by decide) hf
          · obtain ⟨_, cs, hb⟩ := (S2.out.tab.own j hj).blk hf
            exact blk_type_ne Z2.out hb (by decide) rfl)
      have y0 := HL.out.cell (i := 0) (by omega)
      have y2 := HL.out.cell (i := 2) (by omega)
      rw [E0.out] at y0
      rw [E2.out] at y2
      have v3 : w2.cell? ⟨w.heap.size, 3, none⟩ = some (.int .i64 2) := Z3.out.cell 3
      have v4 : w2.cell? ⟨w.heap.size, 4, none⟩ = some (.int .i64 owner) := Z3.out.cell 4
      have F3 := Lib.hid f3
      clear GA hT5 hC5 hF5 f1 f2 f3
      go_wp2_with (first | (go_at_call 18; (with_reducible refine (num_any _ _).mono ?_); rintro e w' ⟨rfl, rfl⟩))
      go_ret
      exact ⟨rfl, BB.out, V5, VL, pa.1, pa.2.1, HT.out, by rw [F3.out.1, F3.out.2]; exact HL.out, IA.out, by rw [F3.out.1, F3.out.2]; exact S1.out.nod⟩
    · have hh := ht.resolve_right hw
      have hb1 : decide (owner ∈ LdL (L (x * 2 + 1)) ((L (x * 2)).map (·.1)) 0) = false := decide_eq_false hw
      simp only [hb1] at gw
      have hb2 : decide (owner ∈ LdL (L (x * 2 + 1)) ((L (x * 2)).map (·.1)) 2) = true := decide_eq_true hh
      simp only [hb2] at gh
      have GW := Lib.hid gw
      have GH := Lib.hid gh
      clear gw gh
      go_enter Try.func15, Try.ntmps15
      go_wp2_with fail
      go_quiet ((first | (go_at_call 24; with_reducible exact quiet_left (GW.out _)) | (go_at_call 24; with_reducible exact quiet_left (GH.out _))))
      go_wp2_with fail
      obtain ⟨w1, hw1⟩ : ∃ w1, w1 = (w.alloc (.cells #[.int .i64 1, .bool sec, .int .i64 (x : Int), .int .i64 2, .int .i64 owner] 33)).drewN nq := ⟨_, rfl⟩
      rw [← hw1]
      have S2 := Lib.hid (show FairS base w1 T E n Q x i V L wait VL from by rw [hw1]; exact S1.out.below (below_drewN (Below.refl _ _) nq))
      have Z2 := Lib.hid (show Blk w1 w.heap.size 33 #[.int .i64 1, .bool sec, .int .i64 (x : Int), .int .i64 2, .int .i64 owner] from by rw [hw1]; exact Z1.out)
      have B2 := Lib.hid (show Below base w w1 from by rw [hw1]; exact below_drewN BB1.out nq)
      clear hw1 m0 m2 m3 m4 x0 x2 GW GH
      have gA := ga w1 S2.out.tab
      rw [f1, f2] at gA
      have GA := Lib.hid gA
      clear ga gA
      refine GA.out.mono ?_
      rintro e w2 ⟨rfl, V5, hT5, hC5, hF5⟩
      have HT := Lib.hid hT5
      have HC := Lib.hid hC5
      have BB := Lib.hid (B2.out.trans (S2.out.tab.bel hC5))
      have HL := Lib.hid (S2.out.led.keepT S2.out.tab hC5)
      have Z3 := Lib.hid (hC5.blk Z2.out fun j hf => by
          rcases hf with hf | hf | ⟨j, hj, hf⟩
          · exact blk_type_ne Z2.out S2.out.tab.tb (by decide) hf
          · exact blk_type_ne Z2.out S2.out.tab.ex (by decide) hf
          · obtain ⟨_, cs, hb⟩ := (S2.out.tab.own j hj).blk hf
            exact blk_type_ne Z2.out hb (by decide) rfl)
      have y0 := HL.out.cell (i := 0) (by omega)
      have y2 := HL.out.cell (i := 2) (by omega)
      rw [E0.out] at y0
      rw [E2.out] at y2
      have v3 : w2.cell? ⟨w.heap.size, 3, none⟩ = some (.int .i64 2) := Z3.out.cell 3
      have v4 : w2.cell? ⟨w.heap.size, 4, none⟩ = some (.int .i64 owner) := Z3.out.cell 4
      have F3 := Lib.hid f3
      clear GA hT5 hC5 hF5 f1 f2 f3
      go_wp2_with (first | (go_at_call 18; (with_reducible refine (num_any _ _).mono ?_); rintro e w' ⟨rfl, rfl⟩))
      go_ret
      exact ⟨rfl, BB.out, V5, VL, pa.1, pa.2.1, HT.out, by rw [F3.out.1, F3.out.2]; exact HL.out, IA.out, by rw [F3.out.1, F3.out.2]; exact S1.out.nod⟩
  · obtain ⟨pa, hpa⟩ : ∃ pa, pa = acqT n L wait 512 (x : Int) 2 owner := ⟨_, rfl⟩
    have ga := fun w0 h0 => acquireM_any base T E n 512 (x : Int) 2 owner V wait L w0 h0 hn ba bc
    have IA := Lib.hid (acq_inv (most := 512) (ex := (x : Int)) (mode := 2) (owner := owner) S1.out.inv)
    rw [← hpa] at IA HA
    simp only [← hpa] at ga
    obtain ⟨f1, f2, f3⟩ := HA
    have hb1 : decide (owner ∈ LdL (L (x * 2 + 1)) ((L (x * 2)).map (·.1)) 0) = false := decide_eq_false hw
    simp only [hb1] at gw
    have hb2 : decide (owner ∈ LdL (L (x * 2 + 1)) ((L (x * 2)).map (·.1)) 2) = false := decide_eq_false hh
    simp only [hb2] at gh
    have GW := Lib.hid gw
    have GH := Lib.hid gh
    clear gw gh
    go_enter Try.func15, Try.ntmps15
    go_wp2_with fail
    go_quiet ((first | (go_at_call 24; with_reducible exact quiet_left (GW.out _)) | (go_at_call 24; with_reducible exact quiet_left (GH.out _))))
    go_wp2_with fail
    obtain ⟨w1, hw1⟩ : ∃ w1, w1 = (w.alloc (.cells #[.int .i64 1, .bool sec, .int .i64 (x : Int), .int .i64 2, .int .i64 owner] 33)).drewN nq := ⟨_, rfl⟩
    rw [← hw1]
    have S2 := Lib.hid (show FairS base w1 T E n Q x i V L wait VL from by rw [hw1]; exact S1.out.below (below_drewN (Below.refl _ _) nq))
    have Z2 := Lib.hid (show Blk w1 w.heap.size 33 #[.int .i64 1, .bool sec, .int .i64 (x : Int), .int .i64 2, .int .i64 owner] from by rw [hw1]; exact Z1.out)
    have B2 := Lib.hid (show Below base w w1 from by rw [hw1]; exact below_drewN BB1.out nq)
    clear hw1 m0 m2 m3 m4 x0 x2 GW GH
    have gA := ga w1 S2.out.tab
    rw [f1, f2] at gA
    have GA := Lib.hid gA
    clear ga gA
    refine GA.out.mono ?_
    rintro e w2 ⟨rfl, V5, hT5, hC5, hF5⟩
    have HT := Lib.hid hT5
    have HC := Lib.hid hC5
    have BB := Lib.hid (B2.out.trans (S2.out.tab.bel hC5))
    have HL := Lib.hid (S2.out.led.keepT S2.out.tab hC5)
    have Z3 := Lib.hid (hC5.blk Z2.out fun j hf => by
        rcases hf with hf | hf | ⟨j, hj, hf⟩
        · exact blk_type_ne Z2.out S2.out.tab.tb (by decide) hf
        · exact blk_type_ne Z2.out S2.out.tab.ex (by decide) hf
        · obtain ⟨_, cs, hb⟩ := (S2.out.tab.own j hj).blk hf
          exact blk_type_ne Z2.out hb (by decide) rfl)
    have y0 := HL.out.cell (i := 0) (by omega)
    have y2 := HL.out.cell (i := 2) (by omega)
    rw [E0.out] at y0
    rw [E2.out] at y2
    have v3 : w2.cell? ⟨w.heap.size, 3, none⟩ = some (.int .i64 2) := Z3.out.cell 3
    have v4 : w2.cell? ⟨w.heap.size, 4, none⟩ = some (.int .i64 owner) := Z3.out.cell 4
    have F3 := Lib.hid f3
    clear GA hT5 hC5 hF5 f1 f2 f3
    have hrz : ¬ ((0 : Int) < (rn : Int)) := by have := LR.out; rw [F3.out.1] at this; simp at this; omega
    go_wp2_with (first | (go_at_call 18; (with_reducible refine (num_any _ _).mono ?_); rintro e w' ⟨rfl, rfl⟩))
    obtain ⟨A2', c2', e2', G2', _⟩ := HL.out.own 2 (by omega)
    rw [E2.out] at e2'
    injection e2' with h1 h2 h3
    subst h1
    subst h3
    have HS := HL
    have VI := E2
    have LI := Lib.hid (show LdL (L (x * 2 + 1)) ((L (x * 2)).map (·.1)) 2 = ((L (x * 2)).map (·.1)) from rfl)
    have LN := Lib.hid (show (((L (x * 2)).map (·.1))).length = hn2 from h2.symm)
    have GG := Lib.hid G2'
    have SRC := Lib.hid (show w2.cell? ⟨w.heap.size, 4, none⟩ = some (.int .i64 owner) ∧ ∀ j : Nat, ¬ LdF Q VL w.heap.size from ⟨v4, fun _ hf => by
      obtain ⟨_, t, cs, hb, hty⟩ := HL.out.typ hf
      exact blk_type_ne hb Z3.out (by rcases hty with rfl | rfl <;> decide) rfl⟩)
    have hbd : hn2 + 1 ≤ 8000001000001 := by omega
    clear G2' h2 HL
    have Sa := Lib.hid (HS.out.below (((Below.refl w2.heap.size w2).alloc (Nat.le_refl _) (.cells #[.int .i64 owner] 3)).drew))
    have Ga := Lib.hid (show GSl enc1 1 3 (w2.alloc (.cells #[.int .i64 owner] 3)).drew A2 c2 ((L (x * 2)).map (·.1)) from GG.out.chg ((Chg.alloc (fun _ _ => False) w2 (.cells #[.int .i64 owner] 3)).drew) enc1_len fun _ _ _ h => h)
    have Rn := Lib.hid (show RdS enc1 1 (w2.alloc (.cells #[.int .i64 owner] 3)).drew (some ⟨w2.heap.size, 0, none⟩) [owner] from (RdS.new1 enc1 1 w2 3 owner))
    have cq0 : w2.drew.cell? ⟨Q, 2, none⟩ = some (.slice A2 hn2 c2) := by show w2.cell? _ = _; rw [HS.out.cell (by omega), VI.out]
    have cq1 : (w2.alloc (.cells #[.int .i64 owner] 3)).drew.cell? ⟨Q, 2, none⟩ = some (.slice A2 hn2 c2) := by rw [Sa.out.cell (by omega), VI.out]
    have SF0 := Lib.hid (show w2.drew.cell? ⟨w.heap.size, 4, none⟩ = some (.int .i64 owner) from SRC.out.1)
    have SFa := Lib.hid (show (w2.alloc (.cells #[.int .i64 owner] 3)).drew.cell? ⟨w.heap.size, 4, none⟩ = some (.int .i64 owner) from ((Chg.alloc (fun _ _ => False) w2 (.cells #[.int .i64 owner] 3)).drew).cellp (fun _ h => h) SRC.out.1)
    refine wp_region_noPanic ?_
    refine wp_region_held_drew (S := fun w' => w'.cell? ⟨w.heap.size, 4, none⟩ = some (.int .i64 owner)) (by kernel_rfl) (SF0.out) (fun hHeld => ?_)
    refine take_on (i := 0) (some 88) (v := ?vr31) rfl rfl (by kernel_rfl) (by kernel_rfl) (by kernel_rfl) (fun _ _ _ h => h) (by rfl) ?hyr31 (by with_reducible exact hHeld) ?restr31
    case hyr31 => (intro wS hSw; (try dsimp only at hSw); go_simp; try with_reducible rfl)
    try simp only [Act.put, List.setIfInBounds_toArray, List.set_cons_zero, List.set_cons_succ]
    refine take_on (i := 1) (some 89) (v := ?vr32) rfl rfl (by kernel_rfl) (by kernel_rfl) (by kernel_rfl) (fun _ _ _ h => h) (by rfl) ?hyr32 (by with_reducible exact hHeld) ?restr32
    case hyr32 => (intro wS hSw; (try dsimp only at hSw); go_simp; try with_reducible rfl)
    try simp only [Act.put, List.setIfInBounds_toArray, List.set_cons_zero, List.set_cons_succ]
    refine take_on (i := 2) (some 90) (v := ?vr33) rfl rfl (by kernel_rfl) (by kernel_rfl) (by kernel_rfl) (fun _ _ _ h => h) (by rfl) ?hyr33 (by with_reducible exact hHeld) ?restr33
    case hyr33 => (intro wS hSw; (try dsimp only at hSw); go_simp; try with_reducible rfl)
    try simp only [Act.put, List.setIfInBounds_toArray, List.set_cons_zero, List.set_cons_succ]
    refine take_on (i := 3) (some 91) (v := ?vr34) rfl rfl (by kernel_rfl) (by kernel_rfl) (by kernel_rfl) (fun _ _ _ h => h) (by rfl) ?hyr34 (by with_reducible exact hHeld) ?restr34
    case hyr34 => (intro wS hSw; (try dsimp only at hSw); go_simp; try with_reducible rfl)
    try simp only [Act.put, List.setIfInBounds_toArray, List.set_cons_zero, List.set_cons_succ]
    refine take_on (i := 5) (some 93) (v := ?vr35) rfl rfl (by kernel_rfl) (by kernel_rfl) (by kernel_rfl) (fun _ _ _ h => h) (by rfl) ?hyr35 (by with_reducible exact hHeld) ?restr35
    case hyr35 => (intro wS hSw; (try dsimp only at hSw); go_simp; try with_reducible rfl)
    try simp only [Act.put, List.setIfInBounds_toArray, List.set_cons_zero, List.set_cons_succ]
    refine take_on (i := 6) (some 94) (v := ?vr36) rfl rfl (by kernel_rfl) (by kernel_rfl) (by kernel_rfl) (fun _ _ _ h => h) (by rfl) ?hyr36 (by with_reducible exact hHeld) ?restr36
    case hyr36 => (intro wS hSw; (try dsimp only at hSw); go_simp; try with_reducible rfl)
    try simp only [Act.put, List.setIfInBounds_toArray, List.set_cons_zero, List.set_cons_succ]
    refine wpAnyH_ready (rs := [4, 7]) (by kernel_rfl) (by simp) ?_
    refine AllReadyH.cons rfl (fun K hK => ?_) ?_
    · go_simp
      refine hK.out _ _ (SF0.out) (fun hHeld => ?_)
      clear hK K
      try simp only [Act.put, List.setIfInBounds_toArray, List.set_cons_zero, List.set_cons_succ]
      refine wpAnyH_ready (rs := [7]) (by kernel_rfl) (by simp) ?_
      refine AllReadyH.cons rfl (fun K hK => ?_) AllReadyH.nil
      go_simp
      refine hK.out _ _ (SFa.out) (fun hHeld => ?_)
      clear hK K
      try simp only [Act.put, List.setIfInBounds_toArray, List.set_cons_zero, List.set_cons_succ]
      refine wpAnyH_ready (rs := [8]) (by kernel_rfl) (by simp) ?_
      refine AllReadyH.cons rfl (fun K hK => ?_) AllReadyH.nil
      refine step_appendG intTy (by decide) enc1_len enc1_one (by rfl) (.tmp 92) (.tmp 95) (by rfl) A2 c2 ((L (x * 2)).map (·.1)) (by rw [LN.out]; rfl) Ga.out (some ⟨w2.heap.size, 0, none⟩) 1 [owner] (by rfl) Rn.out (by rw [LN.out]; simp only [maxLen, List.length_singleton]; omega) (by rw [LN.out]; simp only [List.length_singleton]; omega) ?_
      intro A' c' wz h4 k4 q4
      have hlp : (((L (x * 2)).map (·.1)) ++ [owner]).length = hn2 + 1 := by rw [List.length_append, LN.out]; rfl
      obtain ⟨SP, CP, CP2, FP, cq2, fq2⟩ := Sa.out.app (i := 2) (by omega) LI.out (by rw [LN.out]; exact VI.out) h4 k4 q4
      rw [hlp] at SP CP2 FP ⊢
      rw [VI.out] at cq2
      have SF2 := Lib.hid (CP.cellp SRC.out.2 SFa.out)
      have SF3 := Lib.hid (CP2.cellp SRC.out.2 SFa.out)
      have HSP := Lib.hid SP
      have HC2 := Lib.hid (((Chg.alloc (fun k _ => LdF Q VL k) w2 (.cells #[.int .i64 owner] 3)).drew).trans CP2 fun _ _ _ h => h)
      have HFP := Lib.hid (show ∀ k, LdF Q (upd VL 2 (.slice A' (hn2 + 1) c')) k → LdF Q VL k ∨ w2.heap.size ≤ k from fun k hk => (FP k hk).imp id fun h => Nat.le_trans (by simp [World.drew]) h)
      clear h4 k4 q4 hlp SP CP CP2 FP
      refine hK.out _ _ SF2.out (fun hHeld => ?_)
      clear hK K
      try simp only [Act.put, List.setIfInBounds_toArray, List.set_cons_zero, List.set_cons_succ]
      refine take_on (i := 9) (some 97) (v := ?vr37) rfl rfl (by kernel_rfl) (by kernel_rfl) (by kernel_rfl) (fun _ _ _ h => h) (by rfl) ?hyr37 (by with_reducible exact hHeld) ?restr37
      case hyr37 => (intro wS hSw; (try dsimp only at hSw); go_simp; try with_reducible rfl)
      try simp only [Act.put, List.setIfInBounds_toArray, List.set_cons_zero, List.set_cons_succ]
      refine take_on (i := 10) (some 98) (v := ?vr38) rfl rfl (by kernel_rfl) (by kernel_rfl) (by kernel_rfl) (fun _ _ _ h => h) (by rfl) ?hyr38 (by with_reducible exact hHeld) ?restr38
      case hyr38 => (intro wS hSw; (try dsimp only at hSw); go_simp; try with_reducible rfl)
      try simp only [Act.put, List.setIfInBounds_toArray, List.set_cons_zero, List.set_cons_succ]
      refine wpAnyH_ready (rs := [11]) (by kernel_rfl) (by simp) ?_
      refine AllReadyH.cons rfl (fun K hK => ?_) AllReadyH.nil
      go_simp
      refine hK.out _ _ (SF3.out) (fun hHeld => ?_)
      clear hK K
      try simp only [Act.put, List.setIfInBounds_toArray, List.set_cons_zero, List.set_cons_succ]
      refine wpAnyH_done (by kernel_rfl) ?_ _
      refine NoPanic.normal ?_
      have HS5 := Lib.hid (HSP.out.congr (L' := LdL (pa.1 (x * 2 + 1)) ((pa.1 (x * 2)).map (·.1))) fun j hj => by
        match j, hj with
        | 0, _ => rw [F3.out.2.2]; rfl
        | 1, _ => rw [F3.out.2.2]; rfl
        | 2, _ =>
          show ((L (x * 2)).map (·.1)) ++ [owner] = (pa.1 (x * 2)).map (·.1)
          rw [F3.out.2.1]
          simp)
      have HB5 := Lib.hid (BB.out.trans (HS.out.bel HC2.out))
      have HT5 := Lib.hid (HT.out.keepL HS.out HC2.out)
      clear HSP HC2 HFP
      go_wp2
      go_ret
      exact ⟨rfl, HB5.out, V5, _, pa.1, pa.2.1, HT5.out, HS5.out, IA.out, by rw [F3.out.2.1, F3.out.2.2, List.append_assoc]; rw [show [(owner, 2)] ++ L (x * 2 + 1) = L (x * 2 + 1) ++ [(owner, 2)] from by rw [F3.out.1]; rfl]; exact nodup_add S1.out.nod hh hw⟩
    · refine AllReadyH.cons rfl (fun K hK => ?_) AllReadyH.nil
      go_simp
      refine hK.out _ _ (SFa.out) (fun hHeld => ?_)
      clear hK K
      try simp only [Act.put, List.setIfInBounds_toArray, List.set_cons_zero, List.set_cons_succ]
      refine wpAnyH_ready (rs := [4]) (by kernel_rfl) (by simp) ?_
      refine AllReadyH.cons rfl (fun K hK => ?_) AllReadyH.nil
      go_simp
      refine hK.out _ _ (SFa.out) (fun hHeld => ?_)
      clear hK K
      try simp only [Act.put, List.setIfInBounds_toArray, List.set_cons_zero, List.set_cons_succ]
      refine wpAnyH_ready (rs := [8]) (by kernel_rfl) (by simp) ?_
      refine AllReadyH.cons rfl (fun K hK => ?_) AllReadyH.nil
      refine step_appendG intTy (by decide) enc1_len enc1_one (by rfl) (.tmp 92) (.tmp 95) (by rfl) A2 c2 ((L (x * 2)).map (·.1)) (by rw [LN.out]; rfl) Ga.out (some ⟨w2.heap.size, 0, none⟩) 1 [owner] (by rfl) Rn.out (by rw [LN.out]; simp only [maxLen, List.length_singleton]; omega) (by rw [LN.out]; simp only [List.length_singleton]; omega) ?_
      intro A' c' wz h4 k4 q4
      have hlp : (((L (x * 2)).map (·.1)) ++ [owner]).length = hn2 + 1 := by rw [List.length_append, LN.out]; rfl
      obtain ⟨SP, CP, CP2, FP, cq2, fq2⟩ := Sa.out.app (i := 2) (by omega) LI.out (by rw [LN.out]; exact VI.out) h4 k4 q4
      rw [hlp] at SP CP2 FP ⊢
      rw [VI.out] at cq2
      have SF2 := Lib.hid (CP.cellp SRC.out.2 SFa.out)
      have SF3 := Lib.hid (CP2.cellp SRC.out.2 SFa.out)
      have HSP := Lib.hid SP
      have HC2 := Lib.hid (((Chg.alloc (fun k _ => LdF Q VL k) w2 (.cells #[.int .i64 owner] 3)).drew).trans CP2 fun _ _ _ h => h)
      have HFP := Lib.hid (show ∀ k, LdF Q (upd VL 2 (.slice A' (hn2 + 1) c')) k → LdF Q VL k ∨ w2.heap.size ≤ k from fun k hk => (FP k hk).imp id fun h => Nat.le_trans (by simp [World.drew]) h)
      clear h4 k4 q4 hlp SP CP CP2 FP
      refine hK.out _ _ SF2.out (fun hHeld => ?_)
      clear hK K
      try simp only [Act.put, List.setIfInBounds_toArray, List.set_cons_zero, List.set_cons_succ]
      refine take_on (i := 9) (some 97) (v := ?vr39) rfl rfl (by kernel_rfl) (by kernel_rfl) (by kernel_rfl) (fun _ _ _ h => h) (by rfl) ?hyr39 (by with_reducible exact hHeld) ?restr39
      case hyr39 => (intro wS hSw; (try dsimp only at hSw); go_simp; try with_reducible rfl)
      try simp only [Act.put, List.setIfInBounds_toArray, List.set_cons_zero, List.set_cons_succ]
      refine take_on (i := 10) (some 98) (v := ?vr40) rfl rfl (by kernel_rfl) (by kernel_rfl) (by kernel_rfl) (fun _ _ _ h => h) (by rfl) ?hyr40 (by with_reducible exact hHeld) ?restr40
      case hyr40 => (intro wS hSw; (try dsimp only at hSw); go_simp; try with_reducible rfl)
      try simp only [Act.put, List.setIfInBounds_toArray, List.set_cons_zero, List.set_cons_succ]
      refine wpAnyH_ready (rs := [11]) (by kernel_rfl) (by simp) ?_
      refine AllReadyH.cons rfl (fun K hK => ?_) AllReadyH.nil
      go_simp
      refine hK.out _ _ (SF3.out) (fun hHeld => ?_)
      clear hK K
      try simp only [Act.put, List.setIfInBounds_toArray, List.set_cons_zero, List.set_cons_succ]
      refine wpAnyH_done (by kernel_rfl) ?_ _
      refine NoPanic.normal ?_
      have HS5 := Lib.hid (HSP.out.congr (L' := LdL (pa.1 (x * 2 + 1)) ((pa.1 (x * 2)).map (·.1))) fun j hj => by
        match j, hj with
        | 0, _ => rw [F3.out.2.2]; rfl
        | 1, _ => rw [F3.out.2.2]; rfl
        | 2, _ =>
          show ((L (x * 2)).map (·.1)) ++ [owner] = (pa.1 (x * 2)).map (·.1)
          rw [F3.out.2.1]
          simp)
      have HB5 := Lib.hid (BB.out.trans (HS.out.bel HC2.out))
      have HT5 := Lib.hid (HT.out.keepL HS.out HC2.out)
      clear HSP HC2 HFP
      go_wp2
      go_ret
      exact ⟨rfl, HB5.out, V5, _, pa.1, pa.2.1, HT5.out, HS5.out, IA.out, by rw [F3.out.2.1, F3.out.2.2, List.append_assoc]; rw [show [(owner, 2)] ++ L (x * 2 + 1) = L (x * 2 + 1) ++ [(owner, 2)] from by rw [F3.out.1]; rfl]; exact nodup_add S1.out.nod hh hw⟩
  · obtain ⟨pa, hpa⟩ : ∃ pa, pa = acqT n L wait 512 (x : Int) 2 owner := ⟨_, rfl⟩
    have ga := fun w0 h0 => acquireM_any base T E n 512 (x : Int) 2 owner V wait L w0 h0 hn ba bc
    have IA := Lib.hid (acq_inv (most := 512) (ex := (x : Int)) (mode := 2) (owner := owner) S1.out.inv)
    rw [← hpa] at IA HA
    simp only [← hpa] at ga
    obtain ⟨f1, f2, f3⟩ := HA
    have hb1 : decide (owner ∈ LdL (L (x * 2 + 1)) ((L (x * 2)).map (·.1)) 0) = false := decide_eq_false hw
    simp only [hb1] at gw
    have hb2 : decide (owner ∈ LdL (L (x * 2 + 1)) ((L (x * 2)).map (·.1)) 2) = false := decide_eq_false hh
    simp only [hb2] at gh
    have GW := Lib.hid gw
    have GH := Lib.hid gh
    clear gw gh
    go_enter Try.func15, Try.ntmps15
    go_wp2_with fail
    go_quiet ((first | (go_at_call 24; with_reducible exact quiet_left (GW.out _)) | (go_at_call 24; with_reducible exact quiet_left (GH.out _))))
    go_wp2_with fail
    obtain ⟨w1, hw1⟩ : ∃ w1, w1 = (w.alloc (.cells #[.int .i64 1, .bool sec, .int .i64 (x : Int), .int .i64 2, .int .i64 owner] 33)).drewN nq := ⟨_, rfl⟩
    rw [← hw1]
    have S2 := Lib.hid (show FairS base w1 T E n Q x i V L wait VL from by rw [hw1]; exact S1.out.below (below_drewN (Below.refl _ _) nq))
    have Z2 := Lib.hid (show Blk w1 w.heap.size 33 #[.int .i64 1, .bool sec, .int .i64 (x : Int), .int .i64 2, .int .i64 owner] from by rw [hw1]; exact Z1.out)
    have B2 := Lib.hid (show Below base w w1 from by rw [hw1]; exact below_drewN BB1.out nq)
    clear hw1 m0 m2 m3 m4 x0 x2 GW GH
    have gA := ga w1 S2.out.tab
    rw [f1, f2] at gA
    have GA := Lib.hid gA
    clear ga gA
    refine GA.out.mono ?_
    rintro e w2 ⟨rfl, V5, hT5, hC5, hF5⟩
    have HT := Lib.hid hT5
    have HC := Lib.hid hC5
    have BB := Lib.hid (B2.out.trans (S2.out.tab.bel hC5))
    have HL := Lib.hid (S2.out.led.keepT S2.out.tab hC5)
    have Z3 := Lib.hid (hC5.blk Z2.out fun j hf => by
        rcases hf with hf | hf | ⟨j, hj, hf⟩
        · exact blk_type_ne Z2.out S2.out.tab.tb (by decide) hf
        · exact blk_type_ne Z2.out S2.out.tab.ex (by decide) hf
        · obtain ⟨_, cs, hb⟩ := (S2.out.tab.own j hj).blk hf
          exact blk_type_ne Z2.out hb (by decide) rfl)
    have y0 := HL.out.cell (i := 0) (by omega)
    have y2 := HL.out.cell (i := 2) (by omega)
    rw [E0.out] at y0
    rw [E2.out] at y2
    have v3 : w2.cell? ⟨w.heap.size, 3, none⟩ = some (.int .i64 2) := Z3.out.cell 3
    have v4 : w2.cell? ⟨w.heap.size, 4, none⟩ = some (.int .i64 owner) := Z3.out.cell 4
    have F3 := Lib.hid f3
    clear GA hT5 hC5 hF5 f1 f2 f3
    have hhz : ((hn2 : Int) == 0) = false := by have := List.length_pos_iff.2 F3.out.1; have h5 := LH.out; rw [beq_eq_false_iff_ne]; omega
    have hhz2 : hn2 ≠ 0 := by have := List.length_pos_iff.2 F3.out.1; have h5 := LH.out; omega
    go_wp2_with (first | (go_at_call 18; (with_reducible refine (num_any _ _).mono ?_); rintro e w' ⟨rfl, rfl⟩))
    obtain ⟨A0', c0', e0', G0', _⟩ := HL.out.own 0 (by omega)
    rw [E0.out] at e0'
    injection e0' with h1 h2 h3
    subst h1
    subst h3
    have HS := HL
    have VI := E0
    have LI := Lib.hid (show LdL (L (x * 2 + 1)) ((L (x * 2)).map (·.1)) 0 = ((L (x * 2 + 1)).map (·.1)) from rfl)
    have LN := Lib.hid (show (((L (x * 2 + 1)).map (·.1))).length = rn from h2.symm)
    have GG := Lib.hid G0'
    have SRC := Lib.hid (show w2.cell? ⟨w.heap.size, 4, none⟩ = some (.int .i64 owner) ∧ ∀ j : Nat, ¬ LdF Q VL w.heap.size from ⟨v4, fun _ hf => by
      obtain ⟨_, t, cs, hb, hty⟩ := HL.out.typ hf
      exact blk_type_ne hb Z3.out (by rcases hty with rfl | rfl <;> decide) rfl⟩)
    have hbd : rn + 1 ≤ 8000001000001 := by omega
    clear G0' h2 HL hhz hhz2
    go_cut [] (fun wx => ∃ V' : Nat → Value, LdS base wx Q V' (upd (LdL (L (x * 2 + 1)) ((L (x * 2)).map (·.1))) 0 (((L (x * 2 + 1)).map (·.1)) ++ [owner])) ∧ Chg (fun k _ => LdF Q VL k) w2 wx ∧ (∀ k, LdF Q V' k → LdF Q VL k ∨ w2.heap.size ≤ k))
    case first =>
      have Sa := Lib.hid (HS.out.below (((Below.refl w2.heap.size w2).alloc (Nat.le_refl _) (.cells #[.int .i64 owner] 3)).drew))
      have Ga := Lib.hid (show GSl enc1 1 3 (w2.alloc (.cells #[.int .i64 owner] 3)).drew A0 c0 ((L (x * 2 + 1)).map (·.1)) from GG.out.chg ((Chg.alloc (fun _ _ => False) w2 (.cells #[.int .i64 owner] 3)).drew) enc1_len fun _ _ _ h => h)
      have Rn := Lib.hid (show RdS enc1 1 (w2.alloc (.cells #[.int .i64 owner] 3)).drew (some ⟨w2.heap.size, 0, none⟩) [owner] from (RdS.new1 enc1 1 w2 3 owner))
      have cq0 : w2.drew.cell? ⟨Q, 0, none⟩ = some (.slice A0 rn c0) := by show w2.cell? _ = _; rw [HS.out.cell (by omega), VI.out]
      have cq1 : (w2.alloc (.cells #[.int .i64 owner] 3)).drew.cell? ⟨Q, 0, none⟩ = some (.slice A0 rn c0) := by rw [Sa.out.cell (by omega), VI.out]
      have SF0 := Lib.hid (show w2.drew.cell? ⟨w.heap.size, 4, none⟩ = some (.int .i64 owner) from SRC.out.1)
      have SFa := Lib.hid (show (w2.alloc (.cells #[.int .i64 owner] 3)).drew.cell? ⟨w.heap.size, 4, none⟩ = some (.int .i64 owner) from ((Chg.alloc (fun _ _ => False) w2 (.cells #[.int .i64 owner] 3)).drew).cellp (fun _ h => h) SRC.out.1)
      refine wp_region_noPanic ?_
      refine wp_region_held_drew (S := fun w' => w'.cell? ⟨w.heap.size, 4, none⟩ = some (.int .i64 owner)) (by kernel_rfl) (SF0.out) (fun hHeld => ?_)
      refine take_on (i := 0) (some 99) (v := ?vr41) rfl rfl (by kernel_rfl) (by kernel_rfl) (by kernel_rfl) (fun _ _ _ h => h) (by rfl) ?hyr41 (by with_reducible exact hHeld) ?restr41
      case hyr41 => (intro wS hSw; (try dsimp only at hSw); go_simp; try with_reducible rfl)
      try simp only [Act.put, List.setIfInBounds_toArray, List.set_cons_zero, List.set_cons_succ]
      refine take_on (i := 1) (some 100) (v := ?vr42) rfl rfl (by kernel_rfl) (by kernel_rfl) (by kernel_rfl) (fun _ _ _ h => h) (by rfl) ?hyr42 (by with_reducible exact hHeld) ?restr42
      case hyr42 => (intro wS hSw; (try dsimp only at hSw); go_simp; try with_reducible rfl)
      try simp only [Act.put, List.setIfInBounds_toArray, List.set_cons_zero, List.set_cons_succ]
      refine take_on (i := 2) (some 101) (v := ?vr43) rfl rfl (by kernel_rfl) (by kernel_rfl) (by kernel_rfl) (fun _ _ _ h => h) (by rfl) ?hyr43 (by with_reducible exact hHeld) ?restr43
      case hyr43 => (intro wS hSw; (try dsimp only at hSw); go_simp; try with_reducible rfl)
      try simp only [Act.put, List.setIfInBounds_toArray, List.set_cons_zero, List.set_cons_succ]
      refine take_on (i := 3) (some 102) (v := ?vr44) rfl rfl (by kernel_rfl) (by kernel_rfl) (by kernel_rfl) (fun _ _ _ h => h) (by rfl) ?hyr44 (by with_reducible exact hHeld) ?restr44
      case hyr44 => (intro wS hSw; (try dsimp only at hSw); go_simp; try with_reducible rfl)
      try simp only [Act.put, List.setIfInBounds_toArray, List.set_cons_zero, List.set_cons_succ]
      refine take_on (i := 5) (some 104) (v := ?vr45) rfl rfl (by kernel_rfl) (by kernel_rfl) (by kernel_rfl) (fun _ _ _ h => h) (by rfl) ?hyr45 (by with_reducible exact hHeld) ?restr45
      case hyr45 => (intro wS hSw; (try dsimp only at hSw); go_simp; try with_reducible rfl)
      try simp only [Act.put, List.setIfInBounds_toArray, List.set_cons_zero, List.set_cons_succ]
      refine take_on (i := 6) (some 105) (v := ?vr46) rfl rfl (by kernel_rfl) (by kernel_rfl) (by kernel_rfl) (fun _ _ _ h => h) (by rfl) ?hyr46 (by with_reducible exact hHeld) ?restr46
      case hyr46 => (intro wS hSw; (try dsimp only at hSw); go_simp; try with_reducible rfl)
      try simp only [Act.put, List.setIfInBounds_toArray, List.set_cons_zero, List.set_cons_succ]
      refine wpAnyH_ready (rs := [4, 7]) (by kernel_rfl) (by simp) ?_
      refine AllReadyH.cons rfl (fun K hK => ?_) ?_
      · go_simp
        refine hK.out _ _ (SF0.out) (fun hHeld => ?_)
        clear hK K
        try simp only [Act.put, List.setIfInBounds_toArray, List.set_cons_zero, List.set_cons_succ]
        refine wpAnyH_ready (rs := [7]) (by kernel_rfl) (by simp) ?_
        refine AllReadyH.cons rfl (fun K hK => ?_) AllReadyH.nil
        go_simp
        refine hK.out _ _ (SFa.out) (fun hHeld => ?_)
        clear hK K
        try simp only [Act.put, List.setIfInBounds_toArray, List.set_cons_zero, List.set_cons_succ]
        refine wpAnyH_ready (rs := [8]) (by kernel_rfl) (by simp) ?_
        refine AllReadyH.cons rfl (fun K hK => ?_) AllReadyH.nil
        refine step_appendG intTy (by decide) enc1_len enc1_one (by rfl) (.tmp 103) (.tmp 106) (by rfl) A0 c0 ((L (x * 2 + 1)).map (·.1)) (by rw [LN.out]; rfl) Ga.out (some ⟨w2.heap.size, 0, none⟩) 1 [owner] (by rfl) Rn.out (by rw [LN.out]; simp only [maxLen, List.length_singleton]; omega) (by rw [LN.out]; simp only [List.length_singleton]; omega) ?_
        intro A' c' wz h4 k4 q4
        have hlp : (((L (x * 2 + 1)).map (·.1)) ++ [owner]).length = rn + 1 := by rw [List.length_append, LN.out]; rfl
        obtain ⟨SP, CP, CP2, FP, cq2, fq2⟩ := Sa.out.app (i := 0) (by omega) LI.out (by rw [LN.out]; exact VI.out) h4 k4 q4
        rw [hlp] at SP CP2 FP ⊢
        rw [VI.out] at cq2
        have SF2 := Lib.hid (CP.cellp SRC.out.2 SFa.out)
        have SF3 := Lib.hid (CP2.cellp SRC.out.2 SFa.out)
        have HSP := Lib.hid SP
        have HC2 := Lib.hid (((Chg.alloc (fun k _ => LdF Q VL k) w2 (.cells #[.int .i64 owner] 3)).drew).trans CP2 fun _ _ _ h => h)
        have HFP := Lib.hid (show ∀ k, LdF Q (upd VL 0 (.slice A' (rn + 1) c')) k → LdF Q VL k ∨ w2.heap.size ≤ k from fun k hk => (FP k hk).imp id fun h => Nat.le_trans (by simp [World.drew]) h)
        clear h4 k4 q4 hlp SP CP CP2 FP
        refine hK.out _ _ SF2.out (fun hHeld => ?_)
        clear hK K
        try simp only [Act.put, List.setIfInBounds_toArray, List.set_cons_zero, List.set_cons_succ]
        refine take_on (i := 9) (some 108) (v := ?vr47) rfl rfl (by kernel_rfl) (by kernel_rfl) (by kernel_rfl) (fun _ _ _ h => h) (by rfl) ?hyr47 (by with_reducible exact hHeld) ?restr47
        case hyr47 => (intro wS hSw; (try dsimp only at hSw); go_simp; try with_reducible rfl)
        try simp only [Act.put, List.setIfInBounds_toArray, List.set_cons_zero, List.set_cons_succ]
        refine take_on (i := 10) (some 109) (v := ?vr48) rfl rfl (by kernel_rfl) (by kernel_rfl) (by kernel_rfl) (fun _ _ _ h => h) (by rfl) ?hyr48 (by with_reducible exact hHeld) ?restr48
        case hyr48 => (intro wS hSw; (try dsimp only at hSw); go_simp; try with_reducible rfl)
        try simp only [Act.put, List.setIfInBounds_toArray, List.set_cons_zero, List.set_cons_succ]
        refine wpAnyH_ready (rs := [11]) (by kernel_rfl) (by simp) ?_
        refine AllReadyH.cons rfl (fun K hK => ?_) AllReadyH.nil
        go_simp
        refine hK.out _ _ (SF3.out) (fun hHeld => ?_)
        clear hK K
        try simp only [Act.put, List.setIfInBounds_toArray, List.set_cons_zero, List.set_cons_succ]
        refine wpAnyH_done (by kernel_rfl) ?_ _
        refine NoPanic.normal ?_
        go_wp2
        go_meet
        exact ⟨_, HSP.out, HC2.out, HFP.out⟩
      · refine AllReadyH.cons rfl (fun K hK => ?_) AllReadyH.nil
        go_simp
        refine hK.out _ _ (SFa.out) (fun hHeld => ?_)
        clear hK K
        try simp only [Act.put, List.setIfInBounds_toArray, List.set_cons_zero, List.set_cons_succ]
        refine wpAnyH_ready (rs := [4]) (by kernel_rfl) (by simp) ?_
        refine AllReadyH.cons rfl (fun K hK => ?_) AllReadyH.nil
        go_simp
        refine hK.out _ _ (SFa.out) (fun hHeld => ?_)
        clear hK K
        try simp only [Act.put, List.setIfInBounds_toArray, List.set_cons_zero, List.set_cons_succ]
        refine wpAnyH_ready (rs := [8]) (by kernel_rfl) (by simp) ?_
        refine AllReadyH.cons rfl (fun K hK => ?_) AllReadyH.nil
        refine step_appendG intTy (by decide) enc1_len enc1_one (by rfl) (.tmp 103) (.tmp 106) (by rfl) A0 c0 ((L (x * 2 + 1)).map (·.1)) (by rw [LN.out]; rfl) Ga.out (some ⟨w2.heap.size, 0, none⟩) 1 [owner] (by rfl) Rn.out (by rw [LN.out]; simp only [maxLen, List.length_singleton]; omega) (by rw [LN.out]; simp only [List.length_singleton]; omega) ?_
        intro A' c' wz h4 k4 q4
        have hlp : (((L (x * 2 + 1)).map (·.1)) ++ [owner]).length = rn + 1 := by rw [List.length_append, LN.out]; rfl
        obtain ⟨SP, CP, CP2, FP, cq2, fq2⟩ := Sa.out.app (i := 0) (by omega) LI.out (by rw [LN.out]; exact VI.out) h4 k4 q4
        rw [hlp] at SP CP2 FP ⊢
        rw [VI.out] at cq2
        have SF2 := Lib.hid (CP.cellp SRC.out.2 SFa.out)
        have SF3 := Lib.hid (CP2.cellp SRC.out.2 SFa.out)
        have HSP := Lib.hid SP
        have HC2 := Lib.hid (((Chg.alloc (fun k _ => LdF Q VL k) w2 (.cells #[.int .i64 owner] 3)).drew).trans CP2 fun _ _ _ h => h)
        have HFP := Lib.hid (show ∀ k, LdF Q (upd VL 0 (.slice A' (rn + 1) c')) k → LdF Q VL k ∨ w2.heap.size ≤ k from fun k hk => (FP k hk).imp id fun h => Nat.le_trans (by simp [World.drew]) h)
        clear h4 k4 q4 hlp SP CP CP2 FP
        refine hK.out _ _ SF2.out (fun hHeld => ?_)
        clear hK K
        try simp only [Act.put, List.setIfInBounds_toArray, List.set_cons_zero, List.set_cons_succ]
        refine take_on (i := 9) (some 108) (v := ?vr49) rfl rfl (by kernel_rfl) (by kernel_rfl) (by kernel_rfl) (fun _ _ _ h => h) (by rfl) ?hyr49 (by with_reducible exact hHeld) ?restr49
        case hyr49 => (intro wS hSw; (try dsimp only at hSw); go_simp; try with_reducible rfl)
        try simp only [Act.put, List.setIfInBounds_toArray, List.set_cons_zero, List.set_cons_succ]
        refine take_on (i := 10) (some 109) (v := ?vr50) rfl rfl (by kernel_rfl) (by kernel_rfl) (by kernel_rfl) (fun _ _ _ h => h) (by rfl) ?hyr50 (by with_reducible exact hHeld) ?restr50
        case hyr50 => (intro wS hSw; (try dsimp only at hSw); go_simp; try with_reducible rfl)
        try simp only [Act.put, List.setIfInBounds_toArray, List.set_cons_zero, List.set_cons_succ]
        refine wpAnyH_ready (rs := [11]) (by kernel_rfl) (by simp) ?_
        refine AllReadyH.cons rfl (fun K hK => ?_) AllReadyH.nil
        go_simp
        refine hK.out _ _ (SF3.out) (fun hHeld => ?_)
        clear hK K
        try simp only [Act.put, List.setIfInBounds_toArray, List.set_cons_zero, List.set_cons_succ]
        refine wpAnyH_done (by kernel_rfl) ?_ _
        refine NoPanic.normal ?_
        go_wp2
        go_meet
        exact ⟨_, HSP.out, HC2.out, HFP.out⟩
    case rest =>
      obtain ⟨V6, hS6, hC6, hF6⟩ := hcut
      have HB6 := Lib.hid (BB.out.trans (HS.out.bel hC6))
      have HT6 := Lib.hid (HT.out.keepL HS.out hC6)
      have Z4 := Lib.hid (hC6.blk Z3.out fun j hf => SRC.out.2 0 hf)
      have v3' : wc.cell? ⟨w.heap.size, 3, none⟩ = some (.int .i64 2) := Z4.out.cell 3
      clear HT BB HS SRC VI LI LN GG v3 v4 y0 y2 hC6
      obtain ⟨A1, c1, e1, G1, _⟩ := hS6.own 1 (by omega)
      have y1 := hS6.cell (i := 1) (by omega)
      have e1 : V6 1 = .slice A1 rn c1 := by rw [e1, LR.out]; congr 1; exact List.length_map _
      rw [e1] at y1
      have HS := Lib.hid hS6
      have VI := Lib.hid e1
      have LI := Lib.hid (show upd (LdL (L (x * 2 + 1)) ((L (x * 2)).map (·.1))) 0 (((L (x * 2 + 1)).map (·.1)) ++ [owner]) 1 = ((L (x * 2 + 1)).map (·.2)) from rfl)
      have LN := Lib.hid (show (((L (x * 2 + 1)).map (·.2))).length = rn by rw [LR.out]; exact List.length_map _)
      have GG := Lib.hid (show GSl enc1 1 3 wc A1 c1 ((L (x * 2 + 1)).map (·.2)) from G1)
      have SRC := Lib.hid (show wc.cell? ⟨w.heap.size, 3, none⟩ = some (.int .i64 2) ∧ ∀ j : Nat, ¬ LdF Q V6 w.heap.size from ⟨v3', fun _ hf => by
        obtain ⟨_, t, cs, hb, hty⟩ := hS6.typ hf
        exact blk_type_ne hb Z4.out (by rcases hty with rfl | rfl <;> decide) rfl⟩)
      clear hS6 hF6 e1 G1
      go_wp2_with fail
      have Sa := Lib.hid (HS.out.below (((Below.refl wc.heap.size wc).alloc (Nat.le_refl _) (.cells #[.int .i64 (2 : Int)] 3)).drew))
      have Ga := Lib.hid (show GSl enc1 1 3 (wc.alloc (.cells #[.int .i64 (2 : Int)] 3)).drew A1 c1 ((L (x * 2 + 1)).map (·.2)) from GG.out.chg ((Chg.alloc (fun _ _ => False) wc (.cells #[.int .i64 (2 : Int)] 3)).drew) enc1_len fun _ _ _ h => h)
      have Rn := Lib.hid (show RdS enc1 1 (wc.alloc (.cells #[.int .i64 (2 : Int)] 3)).drew (some ⟨wc.heap.size, 0, none⟩) [(2 : Int)] from (RdS.new1 enc1 1 wc 3 (2 : Int)))
      have cq0 : wc.drew.cell? ⟨Q, 1, none⟩ = some (.slice A1 rn c1) := by show wc.cell? _ = _; rw [HS.out.cell (by omega), VI.out]
      have cq1 : (wc.alloc (.cells #[.int .i64 (2 : Int)] 3)).drew.cell? ⟨Q, 1, none⟩ = some (.slice A1 rn c1) := by rw [Sa.out.cell (by omega), VI.out]
      have SF0 := Lib.hid (show wc.drew.cell? ⟨w.heap.size, 3, none⟩ = some (.int .i64 (2 : Int)) from SRC.out.1)
      have SFa := Lib.hid (show (wc.alloc (.cells #[.int .i64 (2 : Int)] 3)).drew.cell? ⟨w.heap.size, 3, none⟩ = some (.int .i64 (2 : Int)) from ((Chg.alloc (fun _ _ => False) wc (.cells #[.int .i64 (2 : Int)] 3)).drew).cellp (fun _ h => h) SRC.out.1)
      refine wp_region_noPanic ?_
      refine wp_region_held_drew (S := fun w' => w'.cell? ⟨w.heap.size, 3, none⟩ = some (.int .i64 (2 : Int))) (by kernel_rfl) (SF0.out) (fun hHeld => ?_)
      refine take_on (i := 0) (some 110) (v := ?vr51) rfl rfl (by kernel_rfl) (by kernel_rfl) (by kernel_rfl) (fun _ _ _ h => h) (by rfl) ?hyr51 (by with_reducible exact hHeld) ?restr51
      case hyr51 => (intro wS hSw; (try dsimp only at hSw); go_simp; try with_reducible rfl)
      try simp only [Act.put, List.setIfInBounds_toArray, List.set_cons_zero, List.set_cons_succ]
      refine take_on (i := 1) (some 111) (v := ?vr52) rfl rfl (by kernel_rfl) (by kernel_rfl) (by kernel_rfl) (fun _ _ _ h => h) (by rfl) ?hyr52 (by with_reducible exact hHeld) ?restr52
      case hyr52 => (intro wS hSw; (try dsimp only at hSw); go_simp; try with_reducible rfl)
      try simp only [Act.put, List.setIfInBounds_toArray, List.set_cons_zero, List.set_cons_succ]
      refine take_on (i := 2) (some 112) (v := ?vr53) rfl rfl (by kernel_rfl) (by kernel_rfl) (by kernel_rfl) (fun _ _ _ h => h) (by rfl) ?hyr53 (by with_reducible exact hHeld) ?restr53
      case hyr53 => (intro wS hSw; (try dsimp only at hSw); go_simp; try with_reducible rfl)
      try simp only [Act.put, List.setIfInBounds_toArray, List.set_cons_zero, List.set_cons_succ]
      refine take_on (i := 3) (some 113) (v := ?vr54) rfl rfl (by kernel_rfl) (by kernel_rfl) (by kernel_rfl) (fun _ _ _ h => h) (by rfl) ?hyr54 (by with_reducible exact hHeld) ?restr54
      case hyr54 => (intro wS hSw; (try dsimp only at hSw); go_simp; try with_reducible rfl)
      try simp only [Act.put, List.setIfInBounds_toArray, List.set_cons_zero, List.set_cons_succ]
      refine take_on (i := 5) (some 115) (v := ?vr55) rfl rfl (by kernel_rfl) (by kernel_rfl) (by kernel_rfl) (fun _ _ _ h => h) (by rfl) ?hyr55 (by with_reducible exact hHeld) ?restr55
      case hyr55 => (intro wS hSw; (try dsimp only at hSw); go_simp; try with_reducible rfl)
      try simp only [Act.put, List.setIfInBounds_toArray, List.set_cons_zero, List.set_cons_succ]
      refine take_on (i := 6) (some 116) (v := ?vr56) rfl rfl (by kernel_rfl) (by kernel_rfl) (by kernel_rfl) (fun _ _ _ h => h) (by rfl) ?hyr56 (by with_reducible exact hHeld) ?restr56
      case hyr56 => (intro wS hSw; (try dsimp only at hSw); go_simp; try with_reducible rfl)
      try simp only [Act.put, List.setIfInBounds_toArray, List.set_cons_zero, List.set_cons_succ]
      refine wpAnyH_ready (rs := [4, 7]) (by kernel_rfl) (by simp) ?_
      refine AllReadyH.cons rfl (fun K hK => ?_) ?_
      · go_simp
        refine hK.out _ _ (SF0.out) (fun hHeld => ?_)
        clear hK K
        try simp only [Act.put, List.setIfInBounds_toArray, List.set_cons_zero, List.set_cons_succ]
        refine wpAnyH_ready (rs := [7]) (by kernel_rfl) (by simp) ?_
        refine AllReadyH.cons rfl (fun K hK => ?_) AllReadyH.nil
        go_simp
        refine hK.out _ _ (SFa.out) (fun hHeld => ?_)
        clear hK K
        try simp only [Act.put, List.setIfInBounds_toArray, List.set_cons_zero, List.set_cons_succ]
        refine wpAnyH_ready (rs := [8]) (by kernel_rfl) (by simp) ?_
        refine AllReadyH.cons rfl (fun K hK => ?_) AllReadyH.nil
        refine step_appendG intTy (by decide) enc1_len enc1_one (by rfl) (.tmp 114) (.tmp 117) (by rfl) A1 c1 ((L (x * 2 + 1)).map (·.2)) (by rw [LN.out]; rfl) Ga.out (some ⟨wc.heap.size, 0, none⟩) 1 [(2 : Int)] (by rfl) Rn.out (by rw [LN.out]; simp only [maxLen, List.length_singleton]; omega) (by rw [LN.out]; simp only [List.length_singleton]; omega) ?_
        intro A' c' wz h4 k4 q4
        have hlp : (((L (x * 2 + 1)).map (·.2)) ++ [(2 : Int)]).length = rn + 1 := by rw [List.length_append, LN.out]; rfl
        obtain ⟨SP, CP, CP2, FP, cq2, fq2⟩ := Sa.out.app (i := 1) (by omega) LI.out (by rw [LN.out]; exact VI.out) h4 k4 q4
        rw [hlp] at SP CP2 FP ⊢
        rw [VI.out] at cq2
        have SF2 := Lib.hid (CP.cellp SRC.out.2 SFa.out)
        have SF3 := Lib.hid (CP2.cellp SRC.out.2 SFa.out)
        have HSP := Lib.hid SP
        have HC2 := Lib.hid (((Chg.alloc (fun k _ => LdF Q V6 k) wc (.cells #[.int .i64 (2 : Int)] 3)).drew).trans CP2 fun _ _ _ h => h)
        have HFP := Lib.hid (show ∀ k, LdF Q (upd V6 1 (.slice A' (rn + 1) c')) k → LdF Q V6 k ∨ wc.heap.size ≤ k from fun k hk => (FP k hk).imp id fun h => Nat.le_trans (by simp [World.drew]) h)
        clear h4 k4 q4 hlp SP CP CP2 FP
        refine hK.out _ _ SF2.out (fun hHeld => ?_)
        clear hK K
        try simp only [Act.put, List.setIfInBounds_toArray, List.set_cons_zero, List.set_cons_succ]
        refine take_on (i := 9) (some 119) (v := ?vr57) rfl rfl (by kernel_rfl) (by kernel_rfl) (by kernel_rfl) (fun _ _ _ h => h) (by rfl) ?hyr57 (by with_reducible exact hHeld) ?restr57
        case hyr57 => (intro wS hSw; (try dsimp only at hSw); go_simp; try with_reducible rfl)
        try simp only [Act.put, List.setIfInBounds_toArray, List.set_cons_zero, List.set_cons_succ]
        refine take_on (i := 10) (some 120) (v := ?vr58) rfl rfl (by kernel_rfl) (by kernel_rfl) (by kernel_rfl) (fun _ _ _ h => h) (by rfl) ?hyr58 (by with_reducible exact hHeld) ?restr58
        case hyr58 => (intro wS hSw; (try dsimp only at hSw); go_simp; try with_reducible rfl)
        try simp only [Act.put, List.setIfInBounds_toArray, List.set_cons_zero, List.set_cons_succ]
        refine wpAnyH_ready (rs := [11]) (by kernel_rfl) (by simp) ?_
        refine AllReadyH.cons rfl (fun K hK => ?_) AllReadyH.nil
        go_simp
        refine hK.out _ _ (SF3.out) (fun hHeld => ?_)
        clear hK K
        try simp only [Act.put, List.setIfInBounds_toArray, List.set_cons_zero, List.set_cons_succ]
        refine wpAnyH_done (by kernel_rfl) ?_ _
        refine NoPanic.normal ?_
        have HS5 := Lib.hid (HSP.out.congr (L' := LdL (pa.1 (x * 2 + 1)) ((pa.1 (x * 2)).map (·.1))) fun j hj => by
          match j, hj with
          | 0, _ =>
            show ((L (x * 2 + 1)).map (·.1)) ++ [owner] = (pa.1 (x * 2 + 1)).map (·.1)
            rw [F3.out.2.2]
            simp
          | 1, _ =>
            show ((L (x * 2 + 1)).map (·.2)) ++ [(2 : Int)] = (pa.1 (x * 2 + 1)).map (·.2)
            rw [F3.out.2.2]
            simp
          | 2, _ => rw [F3.out.2.1]; rfl)
        have HB5 := Lib.hid (HB6.out.trans (HS.out.bel HC2.out))
        have HT5 := Lib.hid (HT6.out.keepL HS.out HC2.out)
        clear HSP HC2 HFP
        go_wp2
        go_ret
        exact ⟨rfl, HB5.out, V5, _, pa.1, pa.2.1, HT5.out, HS5.out, IA.out, by rw [F3.out.2.1, F3.out.2.2]; exact nodup_add S1.out.nod hh hw⟩
      · refine AllReadyH.cons rfl (fun K hK => ?_) AllReadyH.nil
        go_simp
        refine hK.out _ _ (SFa.out) (fun hHeld => ?_)
        clear hK K
        try simp only [Act.put, List.setIfInBounds_toArray, List.set_cons_zero, List.set_cons_succ]
        refine wpAnyH_ready (rs := [4]) (by kernel_rfl) (by simp) ?_
        refine AllReadyH.cons rfl (fun K hK => ?_) AllReadyH.nil
        go_simp
        refine hK.out _ _ (SFa.out) (fun hHeld => ?_)
        clear hK K
        try simp only [Act.put, List.setIfInBounds_toArray, List.set_cons_zero, List.set_cons_succ]
        refine wpAnyH_ready (rs := [8]) (by kernel_rfl) (by simp) ?_
        refine AllReadyH.cons rfl (fun K hK => ?_) AllReadyH.nil
        refine step_appendG intTy (by decide) enc1_len enc1_one (by rfl) (.tmp 114) (.tmp 117) (by rfl) A1 c1 ((L (x * 2 + 1)).map (·.2)) (by rw [LN.out]; rfl) Ga.out (some ⟨wc.heap.size, 0, none⟩) 1 [(2 : Int)] (by rfl) Rn.out (by rw [LN.out]; simp only [maxLen, List.length_singleton]; omega) (by rw [LN.out]; simp only [List.length_singleton]; omega) ?_
        intro A' c' wz h4 k4 q4
        have hlp : (((L (x * 2 + 1)).map (·.2)) ++ [(2 : Int)]).length = rn + 1 := by rw [List.length_append, LN.out]; rfl
        obtain ⟨SP, CP, CP2, FP, cq2, fq2⟩ := Sa.out.app (i := 1) (by omega) LI.out (by rw [LN.out]; exact VI.out) h4 k4 q4
        rw [hlp] at SP CP2 FP ⊢
        rw [VI.out] at cq2
        have SF2 := Lib.hid (CP.cellp SRC.out.2 SFa.out)
        have SF3 := Lib.hid (CP2.cellp SRC.out.2 SFa.out)
        have HSP := Lib.hid SP
        have HC2 := Lib.hid (((Chg.alloc (fun k _ => LdF Q V6 k) wc (.cells #[.int .i64 (2 : Int)] 3)).drew).trans CP2 fun _ _ _ h => h)
        have HFP := Lib.hid (show ∀ k, LdF Q (upd V6 1 (.slice A' (rn + 1) c')) k → LdF Q V6 k ∨ wc.heap.size ≤ k from fun k hk => (FP k hk).imp id fun h => Nat.le_trans (by simp [World.drew]) h)
        clear h4 k4 q4 hlp SP CP CP2 FP
        refine hK.out _ _ SF2.out (fun hHeld => ?_)
        clear hK K
        try simp only [Act.put, List.setIfInBounds_toArray, List.set_cons_zero, List.set_cons_succ]
        refine take_on (i := 9) (some 119) (v := ?vr59) rfl rfl (by kernel_rfl) (by kernel_rfl) (by kernel_rfl) (fun _ _ _ h => h) (by rfl) ?hyr59 (by with_reducible exact hHeld) ?restr59
        case hyr59 => (intro wS hSw; (try dsimp only at hSw); go_simp; try with_reducible rfl)
        try simp only [Act.put, List.setIfInBounds_toArray, List.set_cons_zero, List.set_cons_succ]
        refine take_on (i := 10) (some 120) (v := ?vr60) rfl rfl (by kernel_rfl) (by kernel_rfl) (by kernel_rfl) (fun _ _ _ h => h) (by rfl) ?hyr60 (by with_reducible exact hHeld) ?restr60
        case hyr60 => (intro wS hSw; (try dsimp only at hSw); go_simp; try with_reducible rfl)
        try simp only [Act.put, List.setIfInBounds_toArray, List.set_cons_zero, List.set_cons_succ]
        refine wpAnyH_ready (rs := [11]) (by kernel_rfl) (by simp) ?_
        refine AllReadyH.cons rfl (fun K hK => ?_) AllReadyH.nil
        go_simp
        refine hK.out _ _ (SF3.out) (fun hHeld => ?_)
        clear hK K
        try simp only [Act.put, List.setIfInBounds_toArray, List.set_cons_zero, List.set_cons_succ]
        refine wpAnyH_done (by kernel_rfl) ?_ _
        refine NoPanic.normal ?_
        have HS5 := Lib.hid (HSP.out.congr (L' := LdL (pa.1 (x * 2 + 1)) ((pa.1 (x * 2)).map (·.1))) fun j hj => by
          match j, hj with
          | 0, _ =>
            show ((L (x * 2 + 1)).map (·.1)) ++ [owner] = (pa.1 (x * 2 + 1)).map (·.1)
            rw [F3.out.2.2]
            simp
          | 1, _ =>
            show ((L (x * 2 + 1)).map (·.2)) ++ [(2 : Int)] = (pa.1 (x * 2 + 1)).map (·.2)
            rw [F3.out.2.2]
            simp
          | 2, _ => rw [F3.out.2.1]; rfl)
        have HB5 := Lib.hid (HB6.out.trans (HS.out.bel HC2.out))
        have HT5 := Lib.hid (HT6.out.keepL HS.out HC2.out)
        clear HSP HC2 HFP
        go_wp2
        go_ret
        exact ⟨rfl, HB5.out, V5, _, pa.1, pa.2.1, HT5.out, HS5.out, IA.out, by rw [F3.out.2.1, F3.out.2.2]; exact nodup_add S1.out.nod hh hw⟩
end Go.Proofs.Ytkjbjfjgnponfaa
