/- Package replicalaw09: the Ledger's fair, by contract: Release, and calls that do nothing. -/
import Derived.Test.YtkjbjfjgnponfaaLkO
namespace Go.Proofs.Ytkjbjfjgnponfaa
open Go.RowKit
set_option linter.unusedSimpArgs false
set_option linter.unusedVariables false
set_option maxRecDepth 20000 in
set_option maxHeartbeats 16000000 in
theorem fair_rel (base T E n Q x i : Nat) (mode owner : Int) (sec : Bool) (V VL : Nat → Value) (wait : Int) (L : Nat → List Pl) (w : World) (hx : x < n) (hn : n ≤ 4096) (hi : i < 512) (hS : FairS base w T E n Q x i V L wait VL) :
    Calls Try.prog 15 #[.pointer (some ⟨Q, 0, none⟩), .pointer (some ⟨T, 0, none⟩), .agg #[.int .i64 2, .bool sec, .int .i64 (x : Int), .int .i64 mode, .int .i64 owner]] w fun e w' => e = .returned (.bool true) ∧ Below base w w' ∧ ∃ (V' VL' : Nat → Value) (L' : Nat → List Pl) (wait' : Int), FairS base w' T E n Q x (i + 1) V' L' wait' VL' := by
  have B1 := (Below.refl w.heap.size w).alloc (Nat.le_refl _) (.cells #[.int .i64 2, .bool sec, .int .i64 (x : Int), .int .i64 mode, .int .i64 owner] 33)
  have S1 := Lib.hid (hS.below B1)
  have z1 := Blk.new w 33 #[.int .i64 2, .bool sec, .int .i64 (x : Int), .int .i64 mode, .int .i64 owner]
  have hbw : base ≤ w.heap.size := Nat.le_trans hS.led.hQ (Nat.le_of_lt hS.led.blk.lt)
  have BB1 := Lib.hid (B1.mono hbw)
  obtain ⟨A0, c0, e0, r0⟩ := (S1.out.led.own 0 (by omega)).rd
  obtain ⟨A2, c2, e2, r2⟩ := (S1.out.led.own 2 (by omega)).rd
  have x0 := S1.out.led.cell (i := 0) (by omega)
  have x2 := S1.out.led.cell (i := 2) (by omega)
  rw [e0] at x0
  rw [e2] at x2
  obtain ⟨rn, hrn⟩ : ∃ k, k = (LdL (L (x * 2 + 1)) ((L (x * 2)).map (·.1)) 0).length := ⟨_, rfl⟩
  obtain ⟨hn2, hhn⟩ : ∃ k, k = (LdL (L (x * 2 + 1)) ((L (x * 2)).map (·.1)) 2).length := ⟨_, rfl⟩
  rw [← hrn] at x0
  rw [← hhn] at x2
  have i0 : x * 2 < 2 * n := by omega
  have i1 : x * 2 + 1 < 2 * n := by omega
  have lr : rn = (L (x * 2 + 1)).length := by rw [hrn]; exact List.length_map _
  have lh : hn2 = (L (x * 2)).length := by rw [hhn]; exact List.length_map _
  obtain ⟨ba, bb, bc, bd⟩ := hS.inv.bounds (Nat.le_of_lt hi)
  have bh2 := hS.inv.lens _ i0
  have bh3 := hS.inv.lens _ i1
  have rb : rn ≤ 512 := by omega
  have hb : hn2 ≤ 512 := by omega
  have gw := fun k => has_any A0 c0 rn (LdL (L (x * 2 + 1)) ((L (x * 2)).map (·.1)) 0) owner ((w.alloc (.cells #[.int .i64 2, .bool sec, .int .i64 (x : Int), .int .i64 mode, .int .i64 owner] 33)).drewN k) hrn.symm (by omega) (r0.drewN k)
  have gh := fun k => has_any A2 c2 hn2 (LdL (L (x * 2 + 1)) ((L (x * 2)).map (·.1)) 2) owner ((w.alloc (.cells #[.int .i64 2, .bool sec, .int .i64 (x : Int), .int .i64 mode, .int .i64 owner] 33)).drewN k) hhn.symm (by omega) (r2.drewN k)
  have Z1 := Lib.hid z1
  have E0 := Lib.hid (e0.trans (by rw [← hrn]))
  have E2 := Lib.hid (e2.trans (by rw [← hhn]))
  have LR := Lib.hid lr
  have LH := Lib.hid lh
  have BD := Lib.hid bd
  have m0 : (w.alloc (.cells #[.int .i64 2, .bool sec, .int .i64 (x : Int), .int .i64 mode, .int .i64 owner] 33)).cell? ⟨w.heap.size, 0, none⟩ = some (.int .i64 2) := z1.cell 0
  have m2 : (w.alloc (.cells #[.int .i64 2, .bool sec, .int .i64 (x : Int), .int .i64 mode, .int .i64 owner] 33)).cell? ⟨w.heap.size, 2, none⟩ = some (.int .i64 (x : Int)) := z1.cell 2
  have m3 : (w.alloc (.cells #[.int .i64 2, .bool sec, .int .i64 (x : Int), .int .i64 mode, .int .i64 owner] 33)).cell? ⟨w.heap.size, 3, none⟩ = some (.int .i64 mode) := z1.cell 3
  have m4 : (w.alloc (.cells #[.int .i64 2, .bool sec, .int .i64 (x : Int), .int .i64 mode, .int .i64 owner] 33)).cell? ⟨w.heap.size, 4, none⟩ = some (.int .i64 owner) := z1.cell 4
  clear hS B1 z1 e0 e2 r0 r2 hrn hhn lr lh bd bh2 bh3
  have HA := rel_fair (wait := wait) (owner := owner) hx S1.out.nod
  rcases HA with ⟨⟨hh, hw⟩, HA⟩ | ⟨ht, HA⟩
  · obtain ⟨pa, hpa⟩ : ∃ pa, pa = relT n L wait (x : Int) owner := ⟨_, rfl⟩
    have ga := fun w0 h0 => releaseM_any base T E n 512 (x : Int) owner V wait L w0 h0 hn ba bc bb
    have IA := Lib.hid ((rel_inv (ex := (x : Int)) (owner := owner) S1.out.inv).mono (Nat.le_succ i))
    rw [← hpa] at IA HA
    simp only [← hpa] at ga
    obtain ⟨f1, f2, f3⟩ := HA
    have hb1 : decide (owner ∈ LdL (L (x * 2 + 1)) ((L (x * 2)).map (·.1)) 0) = false := decide_eq_false hw
    simp only [hb1] at gw
    have hb2 : decide (owner ∈ LdL (L (x * 2 + 1)) ((L (x * 2)).map (·.1)) 2) = false := decide_eq_false hh
    simp only [hb2] at gh
    have GW := Lib.hid gw
    have GH := Lib.hid gh
    clear gw gh
    go_enter Try.func15, Try.ntmps15
    go_wp2_with fail
    go_quiet ((first | (go_at_call 24; with_reducible exact quiet_left (GW.out _)) | (go_at_call 24; with_reducible exact quiet_left (GH.out _))))
    go_wp2_with fail
    obtain ⟨w1, hw1⟩ : ∃ w1, w1 = (w.alloc (.cells #[.int .i64 2, .bool sec, .int .i64 (x : Int), .int .i64 mode, .int .i64 owner] 33)).drewN nq := ⟨_, rfl⟩
    rw [← hw1]
    have S2 := Lib.hid (show FairS base w1 T E n Q x i V L wait VL from by rw [hw1]; exact S1.out.below (below_drewN (Below.refl _ _) nq))
    have Z2 := Lib.hid (show Blk w1 w.heap.size 33 #[.int .i64 2, .bool sec, .int .i64 (x : Int), .int .i64 mode, .int .i64 owner] from by rw [hw1]; exact Z1.out)
    have B2 := Lib.hid (show Below base w w1 from by rw [hw1]; exact below_drewN BB1.out nq)
    clear hw1 m0 m2 m3 m4 x0 x2 GW GH
    have gA := ga w1 S2.out.tab
    rw [f1, f2] at gA
    have GA := Lib.hid gA
    clear ga gA
    refine GA.out.mono ?_
    rintro e w2 ⟨A, c, rfl, hrd, hA, V5, hT5, hC5, hF5⟩
    have HT := Lib.hid hT5
    have HC := Lib.hid hC5
    have BB := Lib.hid (B2.out.trans (S2.out.tab.bel hC5))
    have HL := Lib.hid (S2.out.led.keepT S2.out.tab hC5)
    have Z3 := Lib.hid (hC5.blk Z2.out fun j hf => by
        rcases hf with hf | hf | ⟨j, hj, hf⟩
        · exact blk_type_ne Z2.out S2.out.tab.tb (by decide) hf
        · exact blk_type_ne Z2.out S2.out.tab.ex (by decide) hf
        · obtain ⟨_, cs, hb⟩ := (S2.out.tab.own j hj).blk hf
          exact blk_type_ne Z2.out hb (by decide) rfl)
    have v4 : w2.cell? ⟨w.heap.size, 4, none⟩ = some (.int .i64 owner) := Z3.out.cell 4
    have F3 := Lib.hid f3
    clear GA hT5 hC5 hF5 f1 f2 f3 hrd hA
    go_wp2_with (first | (go_at_call 18; (with_reducible refine (num_any _ _).mono ?_); rintro e w' ⟨rfl, rfl⟩))
    go_ret
    exact ⟨rfl, BB.out, V5, VL, pa.1, pa.2.1, HT.out, by rw [F3.out.1, F3.out.2]; exact HL.out, IA.out, by rw [F3.out.1, F3.out.2]; exact S1.out.nod⟩
  · obtain ⟨pa, hpa⟩ : ∃ pa, pa = relT n L wait (x : Int) owner := ⟨_, rfl⟩
    have ga := fun w0 h0 => releaseM_any base T E n 512 (x : Int) owner V wait L w0 h0 hn ba bc bb
    have IA := Lib.hid ((rel_inv (ex := (x : Int)) (owner := owner) S1.out.inv).mono (Nat.le_succ i))
    rw [← hpa] at IA HA
    simp only [← hpa] at ga
    obtain ⟨f2, hcm⟩ := HA
    by_cases hw : owner ∈ (L (x * 2 + 1)).map (·.1)
    · have hb1 : decide (owner ∈ LdL (L (x * 2 + 1)) ((L (x * 2)).map (·.1)) 0) = true := decide_eq_true hw
      simp only [hb1] at gw
      have GW := Lib.hid gw
      have GH := Lib.hid gh
      clear gw gh
      go_enter Try.func15, Try.ntmps15
      go_wp2_with fail
      go_quiet ((first | (go_at_call 24; with_reducible exact quiet_left (GW.out _)) | (go_at_call 24; with_reducible exact quiet_left (GH.out _))))
      go_wp2_with fail
      obtain ⟨w1, hw1⟩ : ∃ w1, w1 = (w.alloc (.cells #[.int .i64 2, .bool sec, .int .i64 (x : Int), .int .i64 mode, .int .i64 owner] 33)).drewN nq := ⟨_, rfl⟩
      rw [← hw1]
      have S2 := Lib.hid (show FairS base w1 T E n Q x i V L wait VL from by rw [hw1]; exact S1.out.below (below_drewN (Below.refl _ _) nq))
      have Z2 := Lib.hid (show Blk w1 w.heap.size 33 #[.int .i64 2, .bool sec, .int .i64 (x : Int), .int .i64 mode, .int .i64 owner] from by rw [hw1]; exact Z1.out)
      have B2 := Lib.hid (show Below base w w1 from by rw [hw1]; exact below_drewN BB1.out nq)
      clear hw1 m0 m2 m3 m4 x0 x2 GW GH
      have gA := ga w1 S2.out.tab
      rw [f2] at gA
      obtain ⟨gn, hgn⟩ : ∃ k, k = pa.2.2.1.length := ⟨_, rfl⟩
      rw [← hgn] at gA
      have GA := Lib.hid gA
      clear ga gA
      refine GA.out.mono ?_
      rintro e w2 ⟨A, c, rfl, hrd, hA, V5, hT5, hC5, hF5⟩
      have HT := Lib.hid hT5
      have HC := Lib.hid hC5
      have BB := Lib.hid (B2.out.trans (S2.out.tab.bel hC5))
      have HL := Lib.hid (S2.out.led.keepT S2.out.tab hC5)
      have Z3 := Lib.hid (hC5.blk Z2.out fun j hf => by
          rcases hf with hf | hf | ⟨j, hj, hf⟩
          · exact blk_type_ne Z2.out S2.out.tab.tb (by decide) hf
          · exact blk_type_ne Z2.out S2.out.tab.ex (by decide) hf
          · obtain ⟨_, cs, hb⟩ := (S2.out.tab.own j hj).blk hf
            exact blk_type_ne Z2.out hb (by decide) rfl)
      have v4 : w2.cell? ⟨w.heap.size, 4, none⟩ = some (.int .i64 owner) := Z3.out.cell 4
      have KR := Lib.hid hrd
      have KA := Lib.hid (show ∀ ad, A = some ad → ad.block < w2.heap.size ∧ ¬ LdF Q VL ad.block from fun ad e => by
          obtain ⟨h1, cs, h2⟩ := hA ad e
          exact ⟨h2.lt, fun hf => by have := (S2.out.led.lt hf).2; omega⟩)
      have ho := Lib.hid (out_any base Q rn hn2 owner VL (L (x * 2 + 1)) ((L (x * 2)).map (·.1)) w2 LR.out.symm (by rw [List.length_map]; exact LH.out.symm) (by omega) (by omega) HL.out)
      have HGN := Lib.hid hgn
      have HCM := Lib.hid hcm
      clear GA hT5 hC5 hF5 f2 hcm hgn hrd hA
      go_wp2_with fail
      refine ho.out.mono ?_
      rintro e w3 ⟨rfl, V6, hS6, hC6, hF6⟩
      have HB6 := Lib.hid (BB.out.trans (HL.out.bel hC6))
      have HT6 := Lib.hid (HT.out.keepL HL.out hC6)
      have KR3 := KR.out.keep (w' := w3) fun ad e hl => hC6.far _ (KA.out ad e).1 fun j hf => (KA.out ad e).2 hf
      have KA3 : ∀ ad, A = some ad → ad.block < w3.heap.size ∧ ¬ LdF Q V6 ad.block := fun ad e => ⟨Nat.lt_of_lt_of_le (KA.out ad e).1 hC6.size, fun hf => (hF6 _ hf).elim (KA.out ad e).2 (fun h => absurd (KA.out ad e).1 (Nat.not_lt.2 h))⟩
      rw [rm_map] at hS6
      have lb1 : (rmP (L (x * 2 + 1)) owner).length ≤ 1000000 := Nat.le_trans (List.length_filter_le _ _) (by have := LR.out; omega)
      have lb2 : (rmP (L (x * 2)) owner).length ≤ 1000000 := Nat.le_trans (List.length_filter_le _ _) (by have := LH.out; omega)
      have HS6 := Lib.hid hS6
      have hc := Lib.hid (come_any base Q _ _ gn V6 (rmP (L (x * 2 + 1)) owner) (pa.1 (x * 2 + 1)) (rmP (L (x * 2)) owner) (pa.1 (x * 2)) pa.2.2.1 A c w3 rfl rfl HGN.out.symm lb1 lb2 hS6 HCM.out (fun h => IA.out.hne x hx h) KR3 KA3)
      clear HT BB HL KR KA ho v4 hS6 hC6 hF6 KR3 KA3 lb1 lb2
      go_wp2_with fail
      refine hc.out.mono ?_
      rintro e w4 ⟨rfl, V7, hS7, hC7, hF7⟩
      have HS7 := Lib.hid hS7
      have HB7 := Lib.hid (HB6.out.trans (HS6.out.bel hC7))
      have HT7 := Lib.hid (HT6.out.keepL HS6.out hC7)
      clear hS7 hC7 hF7 hc HB6 HT6 HS6
      go_wp2_with (first | (go_at_call 18; (with_reducible refine (num_any _ _).mono ?_); rintro e w' ⟨rfl, rfl⟩))
      go_ret
      exact ⟨rfl, HB7.out, V5, V7, pa.1, pa.2.1, HT7.out, HS7.out, IA.out, nodup_rm S1.out.nod HCM.out⟩
    · have hh := ht.resolve_right hw
      have hb1 : decide (owner ∈ LdL (L (x * 2 + 1)) ((L (x * 2)).map (·.1)) 0) = false := decide_eq_false hw
      simp only [hb1] at gw
      have hb2 : decide (owner ∈ LdL (L (x * 2 + 1)) ((L (x * 2)).map (·.1)) 2) = true := decide_eq_true hh
      simp only [hb2] at gh
      have GW := Lib.hid gw
      have GH := Lib.hid gh
      clear gw gh
      go_enter Try.func15, Try.ntmps15
      go_wp2_with fail
      go_quiet ((first | (go_at_call 24; with_reducible exact quiet_left (GW.out _)) | (go_at_call 24; with_reducible exact quiet_left (GH.out _))))
      go_wp2_with fail
      obtain ⟨w1, hw1⟩ : ∃ w1, w1 = (w.alloc (.cells #[.int .i64 2, .bool sec, .int .i64 (x : Int), .int .i64 mode, .int .i64 owner] 33)).drewN nq := ⟨_, rfl⟩
      rw [← hw1]
      have S2 := Lib.hid (show FairS base w1 T E n Q x i V L wait VL from by rw [hw1]; exact S1.out.below (below_drewN (Below.refl _ _) nq))
      have Z2 := Lib.hid (show Blk w1 w.heap.size 33 #[.int .i64 2, .bool sec, .int .i64 (x : Int), .int .i64 mode, .int .i64 owner] from by rw [hw1]; exact Z1.out)
      have B2 := Lib.hid (show Below base w w1 from by rw [hw1]; exact below_drewN BB1.out nq)
      clear hw1 m0 m2 m3 m4 x0 x2 GW GH
      have gA := ga w1 S2.out.tab
      rw [f2] at gA
      obtain ⟨gn, hgn⟩ : ∃ k, k = pa.2.2.1.length := ⟨_, rfl⟩
      rw [← hgn] at gA
      have GA := Lib.hid gA
      clear ga gA
      refine GA.out.mono ?_
      rintro e w2 ⟨A, c, rfl, hrd, hA, V5, hT5, hC5, hF5⟩
      have HT := Lib.hid hT5
      have HC := Lib.hid hC5
      have BB := Lib.hid (B2.out.trans (S2.out.tab.bel hC5))
      have HL := Lib.hid (S2.out.led.keepT S2.out.tab hC5)
      have Z3 := Lib.hid (hC5.blk Z2.out fun j hf => by
          rcases hf with hf | hf | ⟨j, hj, hf⟩
          · exact blk_type_ne Z2.out S2.out.tab.tb (by decide) hf
          · exact blk_type_ne Z2.out S2.out.tab.ex (by decide) hf
          · obtain ⟨_, cs, hb⟩ := (S2.out.tab.own j hj).blk hf
            exact blk_type_ne Z2.out hb (by decide) rfl)
      have v4 : w2.cell? ⟨w.heap.size, 4, none⟩ = some (.int .i64 owner) := Z3.out.cell 4
      have KR := Lib.hid hrd
      have KA := Lib.hid (show ∀ ad, A = some ad → ad.block < w2.heap.size ∧ ¬ LdF Q VL ad.block from fun ad e => by
          obtain ⟨h1, cs, h2⟩ := hA ad e
          exact ⟨h2.lt, fun hf => by have := (S2.out.led.lt hf).2; omega⟩)
      have ho := Lib.hid (out_any base Q rn hn2 owner VL (L (x * 2 + 1)) ((L (x * 2)).map (·.1)) w2 LR.out.symm (by rw [List.length_map]; exact LH.out.symm) (by omega) (by omega) HL.out)
      have HGN := Lib.hid hgn
      have HCM := Lib.hid hcm
      clear GA hT5 hC5 hF5 f2 hcm hgn hrd hA
      go_wp2_with fail
      refine ho.out.mono ?_
      rintro e w3 ⟨rfl, V6, hS6, hC6, hF6⟩
      have HB6 := Lib.hid (BB.out.trans (HL.out.bel hC6))
      have HT6 := Lib.hid (HT.out.keepL HL.out hC6)
      have KR3 := KR.out.keep (w' := w3) fun ad e hl => hC6.far _ (KA.out ad e).1 fun j hf => (KA.out ad e).2 hf
      have KA3 : ∀ ad, A = some ad → ad.block < w3.heap.size ∧ ¬ LdF Q V6 ad.block := fun ad e => ⟨Nat.lt_of_lt_of_le (KA.out ad e).1 hC6.size, fun hf => (hF6 _ hf).elim (KA.out ad e).2 (fun h => absurd (KA.out ad e).1 (Nat.not_lt.2 h))⟩
      rw [rm_map] at hS6
      have lb1 : (rmP (L (x * 2 + 1)) owner).length ≤ 1000000 := Nat.le_trans (List.length_filter_le _ _) (by have := LR.out; omega)
      have lb2 : (rmP (L (x * 2)) owner).length ≤ 1000000 := Nat.le_trans (List.length_filter_le _ _) (by have := LH.out; omega)
      have HS6 := Lib.hid hS6
      have hc := Lib.hid (come_any base Q _ _ gn V6 (rmP (L (x * 2 + 1)) owner) (pa.1 (x * 2 + 1)) (rmP (L (x * 2)) owner) (pa.1 (x * 2)) pa.2.2.1 A c w3 rfl rfl HGN.out.symm lb1 lb2 hS6 HCM.out (fun h => IA.out.hne x hx h) KR3 KA3)
      clear HT BB HL KR KA ho v4 hS6 hC6 hF6 KR3 KA3 lb1 lb2
      go_wp2_with fail
      refine hc.out.mono ?_
      rintro e w4 ⟨rfl, V7, hS7, hC7, hF7⟩
      have HS7 := Lib.hid hS7
      have HB7 := Lib.hid (HB6.out.trans (HS6.out.bel hC7))
      have HT7 := Lib.hid (HT6.out.keepL HS6.out hC7)
      clear hS7 hC7 hF7 hc HB6 HT6 HS6
      go_wp2_with (first | (go_at_call 18; (with_reducible refine (num_any _ _).mono ?_); rintro e w' ⟨rfl, rfl⟩))
      go_ret
      exact ⟨rfl, HB7.out, V5, V7, pa.1, pa.2.1, HT7.out, HS7.out, IA.out, nodup_rm S1.out.nod HCM.out⟩
set_option maxRecDepth 20000 in
set_option maxHeartbeats 16000000 in
theorem fair_no1 (base T E n Q x i : Nat) (mode owner : Int) (sec : Bool) (V VL : Nat → Value) (wait : Int) (L : Nat → List Pl) (w : World) (hx : x < n) (hn : n ≤ 4096) (hi : i < 512) (hm1 : (mode == 1) = false) (hm2 : (mode == 2) = false) (hS : FairS base w T E n Q x i V L wait VL) :
    Calls Try.prog 15 #[.pointer (some ⟨Q, 0, none⟩), .pointer (some ⟨T, 0, none⟩), .agg #[.int .i64 1, .bool sec, .int .i64 (x : Int), .int .i64 mode, .int .i64 owner]] w fun e w' => e = .returned (.bool true) ∧ Below base w w' ∧ ∃ (V' VL' : Nat → Value) (L' : Nat → List Pl) (wait' : Int), FairS base w' T E n Q x (i + 1) V' L' wait' VL' := by
  have B1 := (Below.refl w.heap.size w).alloc (Nat.le_refl _) (.cells #[.int .i64 1, .bool sec, .int .i64 (x : Int), .int .i64 mode, .int .i64 owner] 33)
  have S1 := Lib.hid (hS.below B1)
  have z1 := Blk.new w 33 #[.int .i64 1, .bool sec, .int .i64 (x : Int), .int .i64 mode, .int .i64 owner]
  have hbw : base ≤ w.heap.size := Nat.le_trans hS.led.hQ (Nat.le_of_lt hS.led.blk.lt)
  have BB1 := Lib.hid (B1.mono hbw)
  obtain ⟨A0, c0, e0, r0⟩ := (S1.out.led.own 0 (by omega)).rd
  obtain ⟨A2, c2, e2, r2⟩ := (S1.out.led.own 2 (by omega)).rd
  have x0 := S1.out.led.cell (i := 0) (by omega)
  have x2 := S1.out.led.cell (i := 2) (by omega)
  rw [e0] at x0
  rw [e2] at x2
  obtain ⟨rn, hrn⟩ : ∃ k, k = (LdL (L (x * 2 + 1)) ((L (x * 2)).map (·.1)) 0).length := ⟨_, rfl⟩
  obtain ⟨hn2, hhn⟩ : ∃ k, k = (LdL (L (x * 2 + 1)) ((L (x * 2)).map (·.1)) 2).length := ⟨_, rfl⟩
  rw [← hrn] at x0
  rw [← hhn] at x2
  have i0 : x * 2 < 2 * n := by omega
  have i1 : x * 2 + 1 < 2 * n := by omega
  have lr : rn = (L (x * 2 + 1)).length := by rw [hrn]; exact List.length_map _
  have lh : hn2 = (L (x * 2)).length := by rw [hhn]; exact List.length_map _
  obtain ⟨ba, bb, bc, bd⟩ := hS.inv.bounds (Nat.le_of_lt hi)
  have bh2 := hS.inv.lens _ i0
  have bh3 := hS.inv.lens _ i1
  have rb : rn ≤ 512 := by omega
  have hb : hn2 ≤ 512 := by omega
  have gw := fun k => has_any A0 c0 rn (LdL (L (x * 2 + 1)) ((L (x * 2)).map (·.1)) 0) owner ((w.alloc (.cells #[.int .i64 1, .bool sec, .int .i64 (x : Int), .int .i64 mode, .int .i64 owner] 33)).drewN k) hrn.symm (by omega) (r0.drewN k)
  have gh := fun k => has_any A2 c2 hn2 (LdL (L (x * 2 + 1)) ((L (x * 2)).map (·.1)) 2) owner ((w.alloc (.cells #[.int .i64 1, .bool sec, .int .i64 (x : Int), .int .i64 mode, .int .i64 owner] 33)).drewN k) hhn.symm (by omega) (r2.drewN k)
  have Z1 := Lib.hid z1
  have E0 := Lib.hid (e0.trans (by rw [← hrn]))
  have E2 := Lib.hid (e2.trans (by rw [← hhn]))
  have LR := Lib.hid lr
  have LH := Lib.hid lh
  have BD := Lib.hid bd
  have m0 : (w.alloc (.cells #[.int .i64 1, .bool sec, .int .i64 (x : Int), .int .i64 mode, .int .i64 owner] 33)).cell? ⟨w.heap.size, 0, none⟩ = some (.int .i64 1) := z1.cell 0
  have m2 : (w.alloc (.cells #[.int .i64 1, .bool sec, .int .i64 (x : Int), .int .i64 mode, .int .i64 owner] 33)).cell? ⟨w.heap.size, 2, none⟩ = some (.int .i64 (x : Int)) := z1.cell 2
  have m3 : (w.alloc (.cells #[.int .i64 1, .bool sec, .int .i64 (x : Int), .int .i64 mode, .int .i64 owner] 33)).cell? ⟨w.heap.size, 3, none⟩ = some (.int .i64 mode) := z1.cell 3
  have m4 : (w.alloc (.cells #[.int .i64 1, .bool sec, .int .i64 (x : Int), .int .i64 mode, .int .i64 owner] 33)).cell? ⟨w.heap.size, 4, none⟩ = some (.int .i64 owner) := z1.cell 4
  clear hS B1 z1 e0 e2 r0 r2 hrn hhn lr lh bd bh2 bh3
  by_cases hw : owner ∈ (L (x * 2 + 1)).map (·.1)
  · have hb1 : decide (owner ∈ LdL (L (x * 2 + 1)) ((L (x * 2)).map (·.1)) 0) = true := decide_eq_true hw
    simp only [hb1] at gw
    have GW := Lib.hid gw
    have GH := Lib.hid gh
    clear gw gh
    go_enter Try.func15, Try.ntmps15
    go_wp2_with fail
    go_quiet ((first | (go_at_call 24; with_reducible exact quiet_left (GW.out _)) | (go_at_call 24; with_reducible exact quiet_left (GH.out _))))
    go_wp2_with fail
    obtain ⟨w1, hw1⟩ : ∃ w1, w1 = (w.alloc (.cells #[.int .i64 1, .bool sec, .int .i64 (x : Int), .int .i64 mode, .int .i64 owner] 33)).drewN nq := ⟨_, rfl⟩
    rw [← hw1]
    have S2 := Lib.hid (show FairS base w1 T E n Q x (i + 1) V L wait VL from by rw [hw1]; exact (S1.out.below (below_drewN (Below.refl _ _) nq)).more)
    have B2 := Lib.hid (show Below base w w1 from by rw [hw1]; exact below_drewN BB1.out nq)
    go_ret
    exact ⟨rfl, B2.out, V, VL, L, wait, S2.out⟩
  · by_cases hh : owner ∈ (L (x * 2)).map (·.1)
    · have hb1 : decide (owner ∈ LdL (L (x * 2 + 1)) ((L (x * 2)).map (·.1)) 0) = false := decide_eq_false hw
      simp only [hb1] at gw
      have hb2 : decide (owner ∈ LdL (L (x * 2 + 1)) ((L (x * 2)).map (·.1)) 2) = true := decide_eq_true hh
      simp only [hb2] at gh
      have GW := Lib.hid gw
      have GH := Lib.hid gh
      clear gw gh
      go_enter Try.func15, Try.ntmps15
      go_wp2_with fail
      go_quiet ((first | (go_at_call 24; with_reducible exact quiet_left (GW.out _)) | (go_at_call 24; with_reducible exact quiet_left (GH.out _))))
      go_wp2_with fail
      obtain ⟨w1, hw1⟩ : ∃ w1, w1 = (w.alloc (.cells #[.int .i64 1, .bool sec, .int .i64 (x : Int), .int .i64 mode, .int .i64 owner] 33)).drewN nq := ⟨_, rfl⟩
      rw [← hw1]
      have S2 := Lib.hid (show FairS base w1 T E n Q x (i + 1) V L wait VL from by rw [hw1]; exact (S1.out.below (below_drewN (Below.refl _ _) nq)).more)
      have B2 := Lib.hid (show Below base w w1 from by rw [hw1]; exact below_drewN BB1.out nq)
      go_ret
      exact ⟨rfl, B2.out, V, VL, L, wait, S2.out⟩
    · have hb1 : decide (owner ∈ LdL (L (x * 2 + 1)) ((L (x * 2)).map (·.1)) 0) = false := decide_eq_false hw
      simp only [hb1] at gw
      have hb2 : decide (owner ∈ LdL (L (x * 2 + 1)) ((L (x * 2)).map (·.1)) 2) = false := decide_eq_false hh
      simp only [hb2] at gh
      have GW := Lib.hid gw
      have GH := Lib.hid gh
      clear gw gh
      go_enter Try.func15, Try.ntmps15
      go_wp2_with fail
      go_quiet ((first | (go_at_call 24; with_reducible exact quiet_left (GW.out _)) | (go_at_call 24; with_reducible exact quiet_left (GH.out _))))
      go_wp2_with fail
      obtain ⟨w1, hw1⟩ : ∃ w1, w1 = (w.alloc (.cells #[.int .i64 1, .bool sec, .int .i64 (x : Int), .int .i64 mode, .int .i64 owner] 33)).drewN nq := ⟨_, rfl⟩
      rw [← hw1]
      have S2 := Lib.hid (show FairS base w1 T E n Q x (i + 1) V L wait VL from by rw [hw1]; exact (S1.out.below (below_drewN (Below.refl _ _) nq)).more)
      have B2 := Lib.hid (show Below base w w1 from by rw [hw1]; exact below_drewN BB1.out nq)
      go_ret
      exact ⟨rfl, B2.out, V, VL, L, wait, S2.out⟩
set_option maxRecDepth 20000 in
set_option maxHeartbeats 16000000 in
theorem fair_no0 (base T E n Q x i : Nat) (kind mode owner : Int) (sec : Bool) (V VL : Nat → Value) (wait : Int) (L : Nat → List Pl) (w : World) (hx : x < n) (hn : n ≤ 4096) (hi : i < 512) (hk1 : (kind == 1) = false) (hk2 : (kind == 2) = false) (hS : FairS base w T E n Q x i V L wait VL) :
    Calls Try.prog 15 #[.pointer (some ⟨Q, 0, none⟩), .pointer (some ⟨T, 0, none⟩), .agg #[.int .i64 kind, .bool sec, .int .i64 (x : Int), .int .i64 mode, .int .i64 owner]] w fun e w' => e = .returned (.bool true) ∧ Below base w w' ∧ ∃ (V' VL' : Nat → Value) (L' : Nat → List Pl) (wait' : Int), FairS base w' T E n Q x (i + 1) V' L' wait' VL' := by
  have B1 := (Below.refl w.heap.size w).alloc (Nat.le_refl _) (.cells #[.int .i64 kind, .bool sec, .int .i64 (x : Int), .int .i64 mode, .int .i64 owner] 33)
  have S1 := Lib.hid (hS.below B1)
  have z1 := Blk.new w 33 #[.int .i64 kind, .bool sec, .int .i64 (x : Int), .int .i64 mode, .int .i64 owner]
  have hbw : base ≤ w.heap.size := Nat.le_trans hS.led.hQ (Nat.le_of_lt hS.led.blk.lt)
  have BB1 := Lib.hid (B1.mono hbw)
  obtain ⟨A0, c0, e0, r0⟩ := (S1.out.led.own 0 (by omega)).rd
  obtain ⟨A2, c2, e2, r2⟩ := (S1.out.led.own 2 (by omega)).rd
  have x0 := S1.out.led.cell (i := 0) (by omega)
  have x2 := S1.out.led.cell (i := 2) (by omega)
  rw [e0] at x0
  rw [e2] at x2
  obtain ⟨rn, hrn⟩ : ∃ k, k = (LdL (L (x * 2 + 1)) ((L (x * 2)).map (·.1)) 0).length := ⟨_, rfl⟩
  obtain ⟨hn2, hhn⟩ : ∃ k, k = (LdL (L (x * 2 + 1)) ((L (x * 2)).map (·.1)) 2).length := ⟨_, rfl⟩
  rw [← hrn] at x0
  rw [← hhn] at x2
  have i0 : x * 2 < 2 * n := by omega
  have i1 : x * 2 + 1 < 2 * n := by omega
  have lr : rn = (L (x * 2 + 1)).length := by rw [hrn]; exact List.length_map _
  have lh : hn2 = (L (x * 2)).length := by rw [hhn]; exact List.length_map _
  obtain ⟨ba, bb, bc, bd⟩ := hS.inv.bounds (Nat.le_of_lt hi)
  have bh2 := hS.inv.lens _ i0
  have bh3 := hS.inv.lens _ i1
  have rb : rn ≤ 512 := by omega
  have hb : hn2 ≤ 512 := by omega
  have gw := fun k => has_any A0 c0 rn (LdL (L (x * 2 + 1)) ((L (x * 2)).map (·.1)) 0) owner ((w.alloc (.cells #[.int .i64 kind, .bool sec, .int .i64 (x : Int), .int .i64 mode, .int .i64 owner] 33)).drewN k) hrn.symm (by omega) (r0.drewN k)
  have gh := fun k => has_any A2 c2 hn2 (LdL (L (x * 2 + 1)) ((L (x * 2)).map (·.1)) 2) owner ((w.alloc (.cells #[.int .i64 kind, .bool sec, .int .i64 (x : Int), .int .i64 mode, .int .i64 owner] 33)).drewN k) hhn.symm (by omega) (r2.drewN k)
  have Z1 := Lib.hid z1
  have E0 := Lib.hid (e0.trans (by rw [← hrn]))
  have E2 := Lib.hid (e2.trans (by rw [← hhn]))
  have LR := Lib.hid lr
  have LH := Lib.hid lh
  have BD := Lib.hid bd
  have m0 : (w.alloc (.cells #[.int .i64 kind, .bool sec, .int .i64 (x : Int), .int .i64 mode, .int .i64 owner] 33)).cell? ⟨w.heap.size, 0, none⟩ = some (.int .i64 kind) := z1.cell 0
  have m2 : (w.alloc (.cells #[.int .i64 kind, .bool sec, .int .i64 (x : Int), .int .i64 mode, .int .i64 owner] 33)).cell? ⟨w.heap.size, 2, none⟩ = some (.int .i64 (x : Int)) := z1.cell 2
  have m3 : (w.alloc (.cells #[.int .i64 kind, .bool sec, .int .i64 (x : Int), .int .i64 mode, .int .i64 owner] 33)).cell? ⟨w.heap.size, 3, none⟩ = some (.int .i64 mode) := z1.cell 3
  have m4 : (w.alloc (.cells #[.int .i64 kind, .bool sec, .int .i64 (x : Int), .int .i64 mode, .int .i64 owner] 33)).cell? ⟨w.heap.size, 4, none⟩ = some (.int .i64 owner) := z1.cell 4
  clear hS B1 z1 e0 e2 r0 r2 hrn hhn lr lh bd bh2 bh3
  by_cases hw : owner ∈ (L (x * 2 + 1)).map (·.1)
  · have hb1 : decide (owner ∈ LdL (L (x * 2 + 1)) ((L (x * 2)).map (·.1)) 0) = true := decide_eq_true hw
    simp only [hb1] at gw
    have GW := Lib.hid gw
    have GH := Lib.hid gh
    clear gw gh
    go_enter Try.func15, Try.ntmps15
    go_wp2_with fail
    go_quiet ((first | (go_at_call 24; with_reducible exact quiet_left (GW.out _)) | (go_at_call 24; with_reducible exact quiet_left (GH.out _))))
    go_wp2_with fail
    obtain ⟨w1, hw1⟩ : ∃ w1, w1 = (w.alloc (.cells #[.int .i64 kind, .bool sec, .int .i64 (x : Int), .int .i64 mode, .int .i64 owner] 33)).drewN nq := ⟨_, rfl⟩
    rw [← hw1]
    have S2 := Lib.hid (show FairS base w1 T E n Q x (i + 1) V L wait VL from by rw [hw1]; exact (S1.out.below (below_drewN (Below.refl _ _) nq)).more)
    have B2 := Lib.hid (show Below base w w1 from by rw [hw1]; exact below_drewN BB1.out nq)
    go_ret
    exact ⟨rfl, B2.out, V, VL, L, wait, S2.out⟩
  · by_cases hh : owner ∈ (L (x * 2)).map (·.1)
    · have hb1 : decide (owner ∈ LdL (L (x * 2 + 1)) ((L (x * 2)).map (·.1)) 0) = false := decide_eq_false hw
      simp only [hb1] at gw
      have hb2 : decide (owner ∈ LdL (L (x * 2 + 1)) ((L (x * 2)).map (·.1)) 2) = true := decide_eq_true hh
      simp only [hb2] at gh
      have GW := Lib.hid gw
      have GH := Lib.hid gh
      clear gw gh
      go_enter Try.func15, Try.ntmps15
      go_wp2_with fail
      go_quiet ((first | (go_at_call 24; with_reducible exact quiet_left (GW.out _)) | (go_at_call 24; with_reducible exact quiet_left (GH.out _))))
      go_wp2_with fail
      obtain ⟨w1, hw1⟩ : ∃ w1, w1 = (w.alloc (.cells #[.int .i64 kind, .bool sec, .int .i64 (x : Int), .int .i64 mode, .int .i64 owner] 33)).drewN nq := ⟨_, rfl⟩
      rw [← hw1]
      have S2 := Lib.hid (show FairS base w1 T E n Q x (i + 1) V L wait VL from by rw [hw1]; exact (S1.out.below (below_drewN (Below.refl _ _) nq)).more)
      have B2 := Lib.hid (show Below base w w1 from by rw [hw1]; exact below_drewN BB1.out nq)
      go_ret
      exact ⟨rfl, B2.out, V, VL, L, wait, S2.out⟩
    · have hb1 : decide (owner ∈ LdL (L (x * 2 + 1)) ((L (x * 2)).map (·.1)) 0) = false := decide_eq_false hw
      simp only [hb1] at gw
      have hb2 : decide (owner ∈ LdL (L (x * 2 + 1)) ((L (x * 2)).map (·.1)) 2) = false := decide_eq_false hh
      simp only [hb2] at gh
      have GW := Lib.hid gw
      have GH := Lib.hid gh
      clear gw gh
      go_enter Try.func15, Try.ntmps15
      go_wp2_with fail
      go_quiet ((first | (go_at_call 24; with_reducible exact quiet_left (GW.out _)) | (go_at_call 24; with_reducible exact quiet_left (GH.out _))))
      go_wp2_with fail
      obtain ⟨w1, hw1⟩ : ∃ w1, w1 = (w.alloc (.cells #[.int .i64 kind, .bool sec, .int .i64 (x : Int), .int .i64 mode, .int .i64 owner] 33)).drewN nq := ⟨_, rfl⟩
      rw [← hw1]
      have S2 := Lib.hid (show FairS base w1 T E n Q x (i + 1) V L wait VL from by rw [hw1]; exact (S1.out.below (below_drewN (Below.refl _ _) nq)).more)
      have B2 := Lib.hid (show Below base w w1 from by rw [hw1]; exact below_drewN BB1.out nq)
      go_ret
      exact ⟨rfl, B2.out, V, VL, L, wait, S2.out⟩
end Go.Proofs.Ytkjbjfjgnponfaa
