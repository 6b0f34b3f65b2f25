/- LocksFair: first come, first served, by a ledger of who was told to wait. -/
import Derived.Test.YtkjbjfjgnponfaaLkP
namespace Go.Proofs.Ytkjbjfjgnponfaa
open Go.RowKit
set_option linter.unusedSimpArgs false
set_option linter.unusedVariables false
theorem fair_all (base T E n Q x i : Nat) (kind mode owner : Int) (sec : Bool) (V VL : Nat → Value) (wait : Int) (L : Nat → List Pl) (w : World) (hx : x < n) (hn : n ≤ 4096) (hi : i < 512) (hS : FairS base w T E n Q x i V L wait VL) :
    Calls Try.prog 15 #[.pointer (some ⟨Q, 0, none⟩), .pointer (some ⟨T, 0, none⟩), .agg #[.int .i64 kind, .bool sec, .int .i64 (x : Int), .int .i64 mode, .int .i64 owner]] w fun e w' => e = .returned (.bool true) ∧ Below base w w' ∧ ∃ (V' VL' : Nat → Value) (L' : Nat → List Pl) (wait' : Int), FairS base w' T E n Q x (i + 1) V' L' wait' VL' := by
  by_cases k1 : kind = 1
  · subst k1
    by_cases m1 : mode = 1
    · subst m1; exact fair_acq1 base T E n Q x i owner sec V VL wait L w hx hn hi hS
    · by_cases m2 : mode = 2
      · subst m2; exact fair_acq2 base T E n Q x i owner sec V VL wait L w hx hn hi hS
      · exact fair_no1 base T E n Q x i mode owner sec V VL wait L w hx hn hi (by rw [beq_eq_false_iff_ne]; exact m1) (by rw [beq_eq_false_iff_ne]; exact m2) hS
  · by_cases k2 : kind = 2
    · subst k2; exact fair_rel base T E n Q x i mode owner sec V VL wait L w hx hn hi hS
    · exact fair_no0 base T E n Q x i kind mode owner sec V VL wait L w hx hn hi (by rw [beq_eq_false_iff_ne]; exact k1) (by rw [beq_eq_false_iff_ne]; exact k2) hS
set_option maxRecDepth 20000 in
set_option maxHeartbeats 16000000 in
theorem fairlaw_any (a b ex : Int) (A : Option Addr) (cap sl : Nat) (ops : List O5) (w : World) (hsl : ops.length = sl) (hsm : sl ≤ 9223372036854775807) (hr : RdS encO5 5 w A ops) :
    Calls Try.prog 3 #[.agg #[.int .i64 a, .int .i64 b], .int .i64 ex, .slice A sl cap] w fun e w' => e = .returned (.bool true) ∧ Below w.heap.size w w' := by
  have HR := Lib.hid hr
  have HSL := Lib.hid hsl
  have B0 := Lib.hid ((Below.refl w.heap.size w).alloc (Nat.le_refl _) (.cells #[.int .i64 a, .int .i64 b] 23))
  have b0 := Blk.new w 23 #[.int .i64 a, .int .i64 b]
  have g0 := may_any a b (w.alloc (.cells #[.int .i64 a, .int .i64 b] 23))
  obtain ⟨mb, hmb⟩ : ∃ mb, mb = (decide (1 ≤ a) && decide (a ≤ 4096) && decide (0 ≤ b) && decide (b ≤ 512)) := ⟨_, rfl⟩
  rw [← hmb] at g0
  have G0 := Lib.hid g0
  have HMB := Lib.hid hmb
  have BK := Lib.hid b0
  clear hr hsl g0 hmb b0
  go_enter Try.func3, Try.ntmps3
  go_wp2_with fail
  refine G0.out.mono ?_
  rintro e w1 ⟨rfl, hB1⟩
  have BK1 := Lib.hid (BK.out.below hB1 BK.out.lt)
  have B1 := Lib.hid (B0.out.trans (hB1.mono B0.out.size))
  have m0 : w1.cell? ⟨w.heap.size, 0, none⟩ = some (.int .i64 a) := BK1.out.cell 0
  have m1 : w1.cell? ⟨w.heap.size, 1, none⟩ = some (.int .i64 b) := BK1.out.cell 1
  have mf := BK1.out.frozen 1
  clear G0 hB1 BK B0
  cases mb with
  | false =>
    go_wp2
    go_ret
    exact ⟨rfl, B1.out⟩
  | true =>
  by_cases hx0 : ex < 0
  · go_wp2
    go_ret
    exact ⟨rfl, B1.out⟩
  by_cases hxa : a ≤ ex
  · go_wp2
    go_ret
    exact ⟨rfl, B1.out⟩
  by_cases hs : (512 : Int) < (sl : Int)
  · go_wp2
    go_ret
    exact ⟨rfl, B1.out⟩
  have hm2 : 1 ≤ a ∧ a ≤ 4096 := by have := HMB.out; simp at this; omega
  obtain ⟨n, rfl⟩ : ∃ n : Nat, a = (n : Int) := ⟨a.toNat, by omega⟩
  obtain ⟨x, rfl⟩ : ∃ x : Nat, ex = (x : Int) := ⟨ex.toNat, by omega⟩
  have hxn : x < n := by omega
  have hn1 : 1 ≤ n := by omega
  have hn2 : n ≤ 4096 := by omega
  have hs2 : sl ≤ 512 := by omega
  have i0 : x * 2 < 2 * n := by omega
  have i1 : x * 2 + 1 < 2 * n := by omega
  have B2 := Lib.hid (B1.out.setCell (p := ⟨w.heap.size, 1, none⟩) (Nat.le_refl _) (.int .i64 512))
  have BK2 := Lib.hid (show Blk (w1.setCell ⟨w.heap.size, 1, none⟩ (.int .i64 512)) w.heap.size 23 #[.int .i64 (n : Int), .int .i64 512] from BK1.out.set_ 1 (.int .i64 512))
  have g1 := Lib.hid (table_ok n 512 (w1.setCell ⟨w.heap.size, 1, none⟩ (.int .i64 512)) hn1 hn2 (by omega) (by omega))
  clear hm2
  go_wp2_with fail
  refine g1.out.mono ?_
  rintro e w2 ⟨T, E, rfl, hT, hB2⟩
  have B3 := Lib.hid (B2.out.trans (hB2.mono B2.out.size))
  have T1 := hT.lower (b' := w.heap.size) B2.out.size
  have ll : LdS w.heap.size (w2.alloc (.cells #[nilS, nilS, nilS] 31)) w2.heap.size (fun _ => nilS) (LdL [] []) :=
    ⟨Blk.new w2 _ _, fun i hi => by
      match i, hi with
      | 0, _ => exact OffI.nil_ _ _
      | 1, _ => exact OffI.nil_ _ _
      | 2, _ => exact OffI.nil_ _ _, fun i j _ _ _ k e => (by cases e), B3.out.size⟩
  have F0 := Lib.hid (show FairS w.heap.size (w2.alloc (.cells #[nilS, nilS, nilS] 31)) T E n w2.heap.size x 0 (fun _ => nilS) (fun _ => []) 0 (fun _ => nilS) from
    ⟨T1.below ((Below.refl _ _).alloc (Nat.le_refl _) _), ll, Inv.zero n, by simp⟩)
  have B4 := Lib.hid (B3.out.alloc B3.out.size (.cells #[nilS, nilS, nilS] 31))
  obtain ⟨Q, hQ⟩ : ∃ Q, Q = w2.heap.size := ⟨_, rfl⟩
  clear g1 hT hB2 BK2 m0 m1 mf T1 ll
  go_wp2_with fail
  rw [← hQ] at F0 ⊢
  clear hQ
  go_loopw [10] (fun t10 wr => ∃ (i : Nat) (V VL : Nat → Value) (L : Nat → List Pl) (wait : Int), i ≤ sl ∧ t10 = .int .i64 (i : Int) ∧ Hid (FairS w.heap.size wr T E n Q x i V L wait VL) ∧ Hid (Below w.heap.size w wr)) (fun t10 _ => sl - (intOf t10).toNat)
  case atStart => exact ⟨0, _, _, _, _, by omega, rfl, F0, B4⟩
  case round =>
    obtain ⟨i, V, VL, L, wait, hi, rfl, h2, hbw⟩ := hrel
    clear F0 B4 B3
    by_cases hlt : i < sl
    · have hlt' : (i : Int) < (sl : Int) := by omega
      obtain ⟨g, o, s, hA, hg, hx, hc⟩ := (HR.out.below hbw.out).at_ (show i < ops.length by rw [HSL.out]; exact hlt)
      subst hA
      obtain ⟨kind, sec, oe, mode, owner⟩ := s
      have y0 : wr.cell? ⟨g, o + i * 5, none⟩ = some (.int .i64 kind) := hc 0 _ rfl
      have y1 : wr.cell? ⟨g, o + i * 5 + 1, none⟩ = some (.bool sec) := hc 1 _ rfl
      have y2 : wr.cell? ⟨g, o + i * 5 + 2, none⟩ = some (.int .i64 oe) := hc 2 _ rfl
      have y3 : wr.cell? ⟨g, o + i * 5 + 3, none⟩ = some (.int .i64 mode) := hc 3 _ rfl
      have y4 : wr.cell? ⟨g, o + i * 5 + 4, none⟩ = some (.int .i64 owner) := hc 4 _ rfl
      have bb := (Below.refl wr.heap.size wr).alloc (Nat.le_refl _) (.cells #[.int .i64 kind, .bool sec, .int .i64 (x : Int), .int .i64 mode, .int .i64 owner] 33)
      have HB := Lib.hid (hbw.out.trans (bb.mono hbw.out.size))
      have gf := Lib.hid (fair_all w.heap.size T E n Q x i kind mode owner sec V VL wait L _ hxn hn2 (by omega) (h2.out.below bb))
      clear hc hx bb
      go_wp2_with fail
      refine gf.out.mono ?_
      rintro e w5 ⟨rfl, hB5, V5, VL5, L5, wait5, hS5⟩
      have HS5 := Lib.hid hS5
      have HB5 := Lib.hid (HB.out.trans hB5)
      clear gf hB5 hS5 y0 y1 y2 y3 y4
      go_wp2
      go_roundw
      case rel => exact ⟨i + 1, V5, VL5, L5, wait5, by omega, by go_num, HS5, HB5⟩
      case measure => simp [intOf]; omega
    · obtain rfl : i = sl := by omega
      obtain ⟨ha1, ha2, ha3, ha4⟩ := h2.out.inv.bounds hs2
      have hbl : (L (x * 2)).length ≤ 1000000 := by have := h2.out.inv.lens _ i0; omega
      have hbr : (L (x * 2 + 1)).length ≤ 1000000 := by have := h2.out.inv.lens _ i1; omega
      obtain ⟨ho, hho⟩ : ∃ v, v = (L (x * 2)).map (·.1) := ⟨_, rfl⟩
      obtain ⟨wt, hwt⟩ : ∃ v, v = (L (x * 2 + 1)).map (·.1) := ⟨_, rfl⟩
      obtain ⟨md, hmd⟩ : ∃ v, v = modeOf (L (x * 2)) 0 := ⟨_, rfl⟩
      have lB0 : listT n L (x : Int) 0 = (ho, md, 0) := by
        unfold listT
        rw [if_neg (show ¬ ¬ (0 ≤ (x : Int) ∧ (x : Int) < (n : Int)) by omega), if_neg (by decide), Int.toNat_natCast, hho, hmd]
      have lB1 : listT n L (x : Int) 1 = (wt, 1, 0) := by
        unfold listT
        rw [if_neg (show ¬ ¬ (0 ≤ (x : Int) ∧ (x : Int) < (n : Int)) by omega), if_pos rfl, Int.toNat_natCast, hwt]
      obtain ⟨hl, hhl⟩ : ∃ v, v = ho.length := ⟨_, rfl⟩
      obtain ⟨wl, hwl⟩ : ∃ v, v = wt.length := ⟨_, rfl⟩
      have hlm : hl ≤ 1000000 := by rw [hhl, hho, List.length_map]; exact hbl
      have wlm : wl ≤ 1000000 := by rw [hwl, hwt, List.length_map]; exact hbr
      have LB0 := Lib.hid lB0
      have LB1 := Lib.hid lB1
      have HHL := Lib.hid hhl
      have HWL := Lib.hid hwl
      have HHO := Lib.hid hho
      have HWT := Lib.hid hwt
      clear lB0 lB1 hho hwt hmd hhl hwl hbl hbr
      have gl := holdersM_any w.heap.size T E n 512 (x : Int) V wait L wr h2.out.tab hn2 ha1 ha3
      rw [LB0.out] at gl
      rw [show (ho, md, (0 : Int)).1.length = hl from HHL.out.symm] at gl
      have GL := Lib.hid gl
      clear gl
      go_wp2_with fail
      refine GL.out.mono ?_
      rintro e wA ⟨A1, c1, rfl, r1, b1, V7, hT, hC, hF⟩
      have HTA := Lib.hid hT
      have HLA := Lib.hid (h2.out.led.keepT h2.out.tab hC)
      have BA := Lib.hid (hbw.out.trans (h2.out.tab.bel hC))
      have K1 := Lib.hid (show KeptL wA A1 ho from ⟨r1, fun ad e => (b1 ad e).2⟩)
      clear GL hT hC hF r1 b1
      have gl := waitersM_any w.heap.size T E n 512 (x : Int) V7 wait L wA HTA.out hn2 ha1 ha3
      rw [LB1.out] at gl
      rw [show (wt, (1 : Int), (0 : Int)).1.length = wl from HWL.out.symm] at gl
      have GL := Lib.hid gl
      clear gl
      go_wp2_with fail
      refine GL.out.mono ?_
      rintro e wB ⟨A2, c2, rfl, r2, b2, V8, hT, hC, hF⟩
      have HLB := Lib.hid (HLA.out.keepT HTA.out hC)
      have BB := Lib.hid (BA.out.trans (HTA.out.bel hC))
      have K1b := Lib.hid (K1.out.keep HTA.out hC)
      have K2 := Lib.hid (show Rd encI wB A2 wt from r2)
      clear GL hT hC hF r2 b2
      obtain ⟨A3, c3, e3, r3⟩ := (HLB.out.own 2 (by omega)).rd
      obtain ⟨A4, c4, e4, r4⟩ := (HLB.out.own 0 (by omega)).rd
      have e3 : VL 2 = .slice A3 hl c3 := by rw [e3, HHL.out, HHO.out]; rfl
      have e4 : VL 0 = .slice A4 wl c4 := by rw [e4, HWL.out, HWT.out]; rfl
      have r3 : Rd encI wB A3 ho := by rw [HHO.out]; exact r3
      have r4 : Rd encI wB A4 wt := by rw [HWT.out]; exact r4
      have x2 : wB.cell? ⟨Q, 2, none⟩ = some (.slice A3 hl c3) := by rw [HLB.out.cell (by omega), e3]
      have hQlt : Q < wB.heap.size := HLB.out.blk.lt
      have X0 := Lib.hid (show wB.cell? ⟨Q, 0, none⟩ = some (.slice A4 wl c4) by rw [HLB.out.cell (by omega), e4])
      have R4 := Lib.hid r4
      have gs := Lib.hid (same_yes A1 A3 c1 c3 hl ho wB HHL.out.symm (by omega) K1b.out.1 r3)
      clear e3 e4 r3 r4
      go_wp2_with fail
      refine (num_any 0 wB).mono ?_
      rintro e w' ⟨rfl, rfl⟩
      go_wp2_with fail
      refine (num_any 0 wB).mono ?_
      rintro e w' ⟨rfl, rfl⟩
      go_wp2_with fail
      refine gs.out.mono ?_
      rintro e wE ⟨rfl, hBE⟩
      have gs2 := Lib.hid (same_yes A2 A4 c2 c4 wl wt wE HWL.out.symm (by omega) (K2.out.below hBE) (R4.out.below hBE))
      have x0 : wE.cell? ⟨Q, 0, none⟩ = some (.slice A4 wl c4) := (hBE.cell (p := ⟨Q, 0, none⟩) hQlt).trans X0.out
      have BE := Lib.hid (BB.out.trans (hBE.mono BB.out.size))
      clear gs hBE
      go_wp2_with fail
      refine gs2.out.mono ?_
      rintro e wF ⟨rfl, hBF⟩
      have BF := Lib.hid (BE.out.trans (hBF.mono BE.out.size))
      clear gs2 hBF
      go_wp2
      go_ret
      exact ⟨rfl, BF.out⟩
theorem fair_row (a b ex : Int) (A : Option Addr) (cap : Nat) (ops : List O5) (w : World) (_wf : (Lit.int .i64 ex).wf = true) (hsm : ops.length ≤ 9223372036854775807) (hr : RdS encO5 5 w A ops) :
    Calls Try.prog 3 #[.agg #[.int .i64 a, .int .i64 b], .int .i64 ex, .slice A ops.length cap] w fun e w' => e = .returned (.bool true) ∧ Below w.heap.size w w' :=
  fairlaw_any a b ex A cap ops.length ops w rfl hsm hr
end Go.Proofs.Ytkjbjfjgnponfaa
