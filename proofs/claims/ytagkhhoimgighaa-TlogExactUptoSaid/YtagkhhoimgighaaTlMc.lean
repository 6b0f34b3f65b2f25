/- Package replicalaw10: moves: Fail, Barrier, by contract. -/
import Derived.Test.YtagkhhoimgighaaTlMb
namespace Go.Proofs.Ytagkhhoimgighaa
open Go.RowKit
set_option linter.unusedVariables false
set_option linter.unusedSimpArgs false
section
variable {Q : Nat → Nat → Prop} {w w' : World} {G R B k : Nat} {s : LogS} {r : RefT} {F : Nat → Nat → Prop} {FR : Nat → Prop} {FB : Nat → Nat → Prop} {fn kn : Nat} {mk : Int}
set_option maxRecDepth 20000 in
set_option maxHeartbeats 16000000 in
theorem moves_fail (tl : Bool) (of_ a b : Int) (h : PS Q w G R B k s r F FR FB fn kn mk) (hk : k ≤ 8388608) :
    Calls Try.prog 22 #[.agg #[.pointer (some ⟨G, 0, none⟩), .pointer (some ⟨R, 0, none⟩)], .agg #[.int .i64 4, .int .i64 of_, .int .i64 a, .int .i64 b], .bool tl, .pointer (some ⟨B, 0, none⟩)] w (MvP Q w G R B k) := by
  obtain ⟨X0, B0⟩ := boxes_bx w G R 4 of_ a b
  obtain ⟨w0, hw0⟩ : ∃ W, W = boxes w G R 4 of_ a b := ⟨_, rfl⟩
  rw [← hw0] at X0 B0
  have H := Lib.hid (h.ms' (h.ms.below B0))
  have hFlt : ∀ k i, F k i → k < w.heap.size := fun k i hk => h.ms.log.fp_lt hk
  have hBase : Chg Q w w0 := Chg.of_below Q B0
  obtain ⟨p0, p1, o0, o2, o3⟩ := X0.cells
  have HX := Lib.hid X0
  have HFL := Lib.hid hFlt
  have HBA := Lib.hid hBase
  have HW0 := Lib.hid hw0.symm
  obtain ⟨n, hn⟩ : ∃ n, n = w.heap.size := ⟨_, rfl⟩
  have HN := Lib.hid hn
  rw [← hn] at HX HFL p0 p1 o0 o2 o3
  have ht := h.turn
  have hop := h.opn
  have hone := h.sim.one
  have hrl := h.rlen
  clear h X0 B0 hFlt hBase hw0 hn
  have hfn := H.out.fn1
  have hkn := H.out.kn1
  have hm0 := H.out.mk0
  have hm1 := H.out.mk1
  have hlim := H.out.lim.2.1
  have hlen := H.out.len
  have A1 := Lib.hid (fail_any H.out.ms.log)
  obtain ⟨N, hN⟩ : ∃ N, N = s.ws.length := ⟨_, rfl⟩
  rw [← hN] at A1
  have HNN := Lib.hid hN
  have hNb : N ≤ 1024 := by omega
  obtain ⟨L, hL⟩ : ∃ L, L = s.ws.map entW := ⟨_, rfl⟩
  have HLL := Lib.hid (show L.length = N by rw [hL, List.length_map, hN])
  have HRO := Lib.hid (show rFailO r = L by rw [hL]; exact H.out.sim.fail_out)
  have HL := Lib.hid hL
  clear hN hL hlen
  go_enter Try.func22, Try.ntmps22
  go_upto_region 1 with fail
  have hbx : (w.alloc (.cells #[.pointer (some ⟨G, 0, none⟩), .pointer (some ⟨R, 0, none⟩)] 48)).alloc (.cells #[.int .i64 4, .int .i64 of_, .int .i64 a, .int .i64 b] 29) = w0 := HW0.out
  rw [hbx, ← HN.out]
  clear hbx
  go_wp2_with fail
  refine A1.out.mono ?_
  rintro e1 w1 ⟨A, F1, rfl, L1, c1, f1, hd⟩
  have X1 := HX.out.chg c1 HFL.out
  obtain ⟨q0, q1, t0, t2, t3⟩ := X1.cells
  have M1 := Lib.hid (H.out.ms.logT L1 c1 fun k i hk => .inl (f1 k i hk))
  have C1 := Lib.hid c1
  have OK1 := Lib.hid (show okP w1 ⟨A, N, N, L⟩ from ⟨by rw [HL.out]; exact hd.1.ents, HLL.out⟩)
  have CF := Lib.hid (show ∀ k i, cellsP ⟨A, N, N, L⟩ k i → F k i ∧ ¬ F1 k i from hd.2.2)
  have A2 := rfail_any M1.out.ref hrl
  rw [HRO.out, HLL.out] at A2
  have HA2 := Lib.hid A2
  clear X1 L1 c1 f1 hd A2 p0 p1 o0 o2 o3 A1
  go_wp2_with fail
  refine HA2.out.mono ?_
  rintro e2 w2 ⟨Ag, gc, rfl, hrd, ⟨FR2, R2, f2⟩, c2⟩
  have M2 := Lib.hid (M1.out.refT R2 c2 fun k hk => .inl (f2 k hk))
  have C2 := Lib.hid c2
  have OK2 := Lib.hid (OK1.out.chg c2 fun k i hk hr => H.out.ms.dFR k i (CF.out k i hk).1 hr)
  have F2 := Lib.hid (show ∀ k i, cellsP ⟨A, N, N, L⟩ k i → ¬ FR2 k from fun k i hk hr => H.out.ms.dFR k i (CF.out k i hk).1 (f2 k hr))
  have SE := sameEntries_any (cA := N) (cB := gc) OK2.out.1.rds hrd (by rw [HLL.out]; omega) (by rw [HLL.out]; omega)
  rw [HLL.out, decide_eq_true (rfl : L = L)] at SE
  have HSE := Lib.hid SE
  clear R2 f2 c2 hrd HA2 SE q0 q1 t0 t2 t3
  go_wp2_with fail
  refine HSE.out.mono ?_
  rintro e3 w3 ⟨rfl, k3⟩
  have M3 := Lib.hid (M2.out.below k3)
  have OK3 := Lib.hid (OK2.out.below k3)
  have KP := Lib.hid (keep_any B fn kn N mk FB A L w3 M3.out.bk hfn OK3.out (by omega) (by omega) ⟨by omega, by omega⟩ fun k i hk hb => H.out.ms.dFB k i (CF.out k i hk).1 hb)
  have K3 := Lib.hid k3
  clear k3 HSE
  go_wp2_with fail
  refine KP.out.mono ?_
  rintro e4 w4 ⟨rfl, fn', kn', mk', FB', bk4, g1, g2, g3, g4, c4, f4⟩
  have M4 := M3.out.bookT bk4 c4 f4 (fun k i hk => (CF.out k i hk).2) F2.out fun k i hk => H.out.ms.fF k i (CF.out k i hk).1
  have hfin := Lib.hid (show MvP Q w G R B k (.returned (.bool true)) w4 from by
    refine ⟨rfl, ?_, _, _, _, _, _, _, _, _, H.out.failed M4 g1 g2 g3 g4⟩
    have k1 := C1.out.mono (F' := Q) fun k i hk hf => H.out.ms.fF k i hf
    have k2 := C2.out.mono (F' := Q) fun k i hk hf => M1.out.fR k hf i
    have k4 := c4.mono (F' := Q) fun k i hk hf => hf.elim (H.out.ms.fB k i) fun hf => H.out.ms.fF k i (CF.out k i hf).1
    exact (((HBA.out.trans k1 fun _ _ _ h => h).trans k2 fun _ _ _ h => h).trans (Chg.of_below Q K3.out) fun _ _ _ h => h).trans k4 fun _ _ _ h => h)
  clear bk4 g1 g2 g3 g4 c4 f4 M4 KP
  go_wp2_with fail
  go_ret
  exact hfin.out
set_option maxRecDepth 20000 in
set_option maxHeartbeats 16000000 in
theorem moves_bar (tl : Bool) (of_ a b : Int) (h : PS Q w G R B k s r F FR FB fn kn mk) (hk : k ≤ 8388608) :
    Calls Try.prog 22 #[.agg #[.pointer (some ⟨G, 0, none⟩), .pointer (some ⟨R, 0, none⟩)], .agg #[.int .i64 3, .int .i64 of_, .int .i64 a, .int .i64 b], .bool tl, .pointer (some ⟨B, 0, none⟩)] w (MvP Q w G R B k) := by
  obtain ⟨X0, B0⟩ := boxes_bx w G R 3 of_ a b
  obtain ⟨w0, hw0⟩ : ∃ W, W = boxes w G R 3 of_ a b := ⟨_, rfl⟩
  rw [← hw0] at X0 B0
  have H := Lib.hid (h.ms' (h.ms.below B0))
  have hFlt : ∀ k i, F k i → k < w.heap.size := fun k i hk => h.ms.log.fp_lt hk
  have hBase : Chg Q w w0 := Chg.of_below Q B0
  obtain ⟨p0, p1, o0, o2, o3⟩ := X0.cells
  have HX := Lib.hid X0
  have HFL := Lib.hid hFlt
  have HBA := Lib.hid hBase
  have HW0 := Lib.hid hw0.symm
  obtain ⟨n, hn⟩ : ∃ n, n = w.heap.size := ⟨_, rfl⟩
  have HN := Lib.hid hn
  rw [← hn] at HX HFL p0 p1 o0 o2 o3
  have ht := h.turn
  have hop := h.opn
  have hone := h.sim.one
  have hrl := h.rlen
  clear h X0 B0 hFlt hBase hw0 hn
  have hfn := H.out.fn1
  have hkn := H.out.kn1
  have hm0 := H.out.mk0
  have hm1 := H.out.mk1
  have hlim := H.out.lim.2.1
  have hlen := H.out.len
  by_cases hb : barOk s a b
  · have A1 := Lib.hid (barrier_any a b H.out.ms.log hb)
    have HBok := Lib.hid hb
    obtain ⟨N, hN⟩ : ∃ N, N = lead s.ws a := ⟨_, rfl⟩
    have hNb : N ≤ 1024 := by have := lead_le s.ws a; omega
    obtain ⟨L, hL⟩ : ∃ L, L = (s.ws.take (lead s.ws a)).map entW := ⟨_, rfl⟩
    have HLL := Lib.hid (show L.length = N by rw [hL, List.length_map, List.length_take, hN]; have := lead_le s.ws a; omega)
    have HRO := Lib.hid (show rBarO r a = L by rw [hL]; exact H.out.sim.bar_out hb)
    have HL := Lib.hid hL
    have HNN := Lib.hid hN
    rw [← hN] at A1
    have hrok := (H.out.sim.bar_ok a b).2 hb
    have HROK := Lib.hid hrok
    clear hN hL hb hrok
    go_enter Try.func22, Try.ntmps22
    go_upto_region 1 with fail
    have hbx : (w.alloc (.cells #[.pointer (some ⟨G, 0, none⟩), .pointer (some ⟨R, 0, none⟩)] 48)).alloc (.cells #[.int .i64 3, .int .i64 of_, .int .i64 a, .int .i64 b] 29) = w0 := HW0.out
    rw [hbx, ← HN.out]
    clear hbx
    go_wp2_with fail
    refine A1.out.mono ?_
    rintro e1 w1 ⟨A, F1, rfl, L1, c1, f1, hd⟩
    have X1 := HX.out.chg c1 HFL.out
    obtain ⟨q0, q1, t0, t2, t3⟩ := X1.cells
    rw [HNN.out] at L1
    have M1 := Lib.hid (H.out.ms.logT L1 c1 fun k i hk => .inl (f1 k i hk))
    have C1 := Lib.hid c1
    have OK1 := Lib.hid (show okP w1 ⟨A, N, N, L⟩ from ⟨by rw [HL.out, ← HNN.out]; exact hd.1.ents, HLL.out⟩)
    have CF := Lib.hid (show ∀ k i, cellsP ⟨A, N, N, L⟩ k i → F k i ∧ ¬ F1 k i from hd.2.2)
    have CFB := Lib.hid (show ∀ k i, cellsP ⟨A, N, N, L⟩ k i → ¬ FB k i from fun k i hk hb => H.out.ms.dFB k i (hd.2.2 k i hk).1 hb)
    have A2 := rbar_yes a b M1.out.ref hrl HROK.out
    rw [HRO.out, HLL.out] at A2
    have HA2 := Lib.hid A2
    clear X1 L1 c1 f1 hd A2 p0 p1 o0 o2 o3 A1
    go_wp2_with fail
    refine HA2.out.mono ?_
    rintro e2 w2 ⟨Ag, gc, rfl, hrd, ⟨FR2, R2, f2⟩, c2⟩
    have M2 := Lib.hid (M1.out.refT R2 c2 f2)
    have C2 := Lib.hid c2
    have OK2 := Lib.hid (OK1.out.chg c2 fun k i hk hr => H.out.ms.dFR k i (CF.out k i hk).1 hr)
    have F2 := Lib.hid (show ∀ k i, cellsP ⟨A, N, N, L⟩ k i → ¬ FR2 k from fun k i hk hr => by
      rcases f2 k hr with h | h
      · exact H.out.ms.dFR k i (CF.out k i hk).1 h
      · obtain ⟨cs, hb⟩ := OK1.out.cells hk
        have := hb.lt
        omega)
    have FIN := Lib.hid (show ∀ (w3 w4 : World) (fn' kn' : Nat) (mk' : Int) (FB' : Nat → Nat → Prop), Below w2.heap.size w2 w3 → BkAt w4 B fn' kn' mk' FB' → fn' ≤ 1 → kn' ≤ kn + 4 → mk ≤ mk' → mk' ≤ mk + 2 → Chg (fun k i => FB k i ∨ cellsP ⟨A, N, N, L⟩ k i) w3 w4 → (∀ k i, FB' k i → FB k i ∨ cellsP ⟨A, N, N, L⟩ k i ∨ w3.heap.size ≤ k) → MvP Q w G R B k (.returned (.bool true)) w4 from fun w3 w4 fn' kn' mk' FB' k3 bk4 g1 g2 g3 g4 c4 f4 => by
      have M3 := M2.out.below k3
      have M4 := M3.bookT bk4 c4 f4 (fun k i hk => (CF.out k i hk).2) F2.out fun k i hk => H.out.ms.fF k i (CF.out k i hk).1
      refine ⟨rfl, ?_, _, _, _, _, _, _, _, _, H.out.barred HBok.out M4 g1 g2 g3 g4⟩
      have k1 := C1.out.mono (F' := Q) fun k i hk hf => H.out.ms.fF k i hf
      have k2 := C2.out.mono (F' := Q) fun k i hk hf => M1.out.fR k hf i
      have k4 := c4.mono (F' := Q) fun k i hk hf => hf.elim (H.out.ms.fB k i) fun hf => H.out.ms.fF k i (CF.out k i hf).1
      exact (((HBA.out.trans k1 fun _ _ _ h => h).trans k2 fun _ _ _ h => h).trans (Chg.of_below Q k3) fun _ _ _ h => h).trans k4 fun _ _ _ h => h)
    have SE := sameEntries_any (cA := N) (cB := gc) OK2.out.1.rds hrd (by rw [HLL.out]; omega) (by rw [HLL.out]; omega)
    rw [HLL.out, decide_eq_true (rfl : L = L)] at SE
    have HSE := Lib.hid SE
    clear R2 f2 c2 hrd HA2 SE q0 q1 t0 t2 t3
    go_wp2_with (first
      | (go_at_call 25; refine HSE.out.mono ?_; rintro e3 w3 ⟨rfl, k3⟩)
      | (go_at_call 14; refine (num_any _ _).mono ?_; rintro e8 w8 ⟨rfl, rfl⟩)
      | (go_at_call 38; refine (keep_any B fn kn N mk FB A L w3 (M2.out.below k3).bk hfn (OK2.out.below k3) (by omega) (by omega) ⟨by omega, by omega⟩ (fun k i hk hb => CFB.out k i hk hb)).mono ?_; rintro e4 w4 ⟨rfl, fn', kn', mk', FB', bk4, g1, g2, g3, g4, c4, f4⟩; have hfin := Lib.hid (FIN.out w3 w4 fn' kn' mk' FB' k3 bk4 g1 g2 g3 g4 c4 f4); clear bk4 g1 g2 g3 g4 c4 f4))
    go_ret
    exact hfin.out
  · obtain ⟨Ai, ci, bi, ni, hin, _⟩ := H.out.ms.log
    have A1 := Lib.hid (barrier_no a b hin hb)
    have hnr : ¬ rBarOk r a b := fun h => hb ((H.out.sim.bar_ok a b).1 h)
    have A2 := Lib.hid (fun m => rbar_no a b (H.out.ms.below (below_drewN (Below.refl _ _) m)).ref hrl hnr)
    clear hin hb hnr
    go_enter Try.func22, Try.ntmps22
    go_upto_region 1 with fail
    have hbx : (w.alloc (.cells #[.pointer (some ⟨G, 0, none⟩), .pointer (some ⟨R, 0, none⟩)] 48)).alloc (.cells #[.int .i64 3, .int .i64 of_, .int .i64 a, .int .i64 b] 29) = w0 := HW0.out
    rw [hbx, ← HN.out]
    clear hbx
    go_wp2_with fail
    refine A1.out.mono ?_
    rintro e1 w1 ⟨rfl, m1, rfl⟩
    go_wp2_with fail
    refine (A2.out m1).mono ?_
    rintro e2 w2 ⟨rfl, m2, rfl⟩
    obtain ⟨w2, hw2⟩ : ∃ W, W = (w0.drewN m1).drewN m2 := ⟨_, rfl⟩
    have M2 := Lib.hid (show MS Q w2 G R B s r F FR FB fn kn mk from by rw [hw2]; exact H.out.ms.below (below_drewN (below_drewN (Below.refl _ _) m1) m2))
    have B2 := Lib.hid (show Chg Q w w2 from by rw [hw2]; exact (HBA.out.drewN m1).drewN m2)
    obtain ⟨A, hA⟩ : ∃ A : Option Addr, A = none := ⟨_, rfl⟩
    obtain ⟨L, hL⟩ : ∃ L : List Ent3, L = [] := ⟨_, rfl⟩
    obtain ⟨N, hN⟩ : ∃ N : Nat, N = 0 := ⟨_, rfl⟩
    have HLL := Lib.hid (show L.length = N by rw [hL, hN]; rfl)
    have OK2 := Lib.hid (show okP w2 ⟨A, N, N, L⟩ from by rw [hA, hL, hN]; exact ⟨GSl.nil_, rfl⟩)
    have hrd : RdS encE 3 w2 A L := OK2.out.1.rds
    have hemp : ∀ k i, ¬ cellsP ⟨A, N, N, L⟩ k i := fun k i ⟨o, e, _⟩ => by rw [hA] at e; cases e
    have HEMP := Lib.hid hemp
    have CFB := Lib.hid (show ∀ k i, cellsP ⟨A, N, N, L⟩ k i → ¬ FB k i from fun k i hk _ => hemp k i hk)
    have FIN := Lib.hid (show ∀ (w3 w4 : World) (fn' kn' : Nat) (mk' : Int) (FB' : Nat → Nat → Prop), Below w2.heap.size w2 w3 → BkAt w4 B fn' kn' mk' FB' → fn' ≤ 1 → kn' ≤ kn + 4 → mk ≤ mk' → mk' ≤ mk + 2 → Chg (fun k i => FB k i ∨ cellsP ⟨A, N, N, L⟩ k i) w3 w4 → (∀ k i, FB' k i → FB k i ∨ cellsP ⟨A, N, N, L⟩ k i ∨ w3.heap.size ≤ k) → MvP Q w G R B k (.returned (.bool true)) w4 from fun w3 w4 fn' kn' mk' FB' k3 bk4 g1 g2 g3 g4 c4 f4 => by
      have M3 := M2.out.below k3
      have M4 := M3.bookT bk4 c4 f4 (fun k i hk => (HEMP.out k i hk).elim) (fun k i hk => (HEMP.out k i hk).elim) fun k i hk => (HEMP.out k i hk).elim
      refine ⟨rfl, ?_, _, _, _, _, _, _, _, _, H.out.keptB M4 g1 g2 g3 g4⟩
      have k4 := c4.mono (F' := Q) fun k i hk hf => hf.elim (H.out.ms.fB k i) fun hf => (HEMP.out k i hf).elim
      exact (B2.out.trans (Chg.of_below Q k3) fun _ _ _ h => h).trans k4 fun _ _ _ h => h)
    have hNb : N ≤ 1024 := by omega
    have SE := sameEntries_any (cA := N) (cB := N) OK2.out.1.rds hrd (by rw [HLL.out]; omega) (by rw [HLL.out]; omega)
    rw [HLL.out, decide_eq_true (rfl : L = L)] at SE
    have HSE := Lib.hid SE
    rw [← hw2, show Value.slice none 0 0 = Value.slice A N N by rw [hA, hN]]
    clear SE hrd hemp hA hL hN hw2 A1 A2 p0 p1 o0 o2 o3
    go_wp2_with (first
      | (go_at_call 25; refine HSE.out.mono ?_; rintro e3 w3 ⟨rfl, k3⟩)
      | (go_at_call 14; refine (num_any _ _).mono ?_; rintro e8 w8 ⟨rfl, rfl⟩)
      | (go_at_call 38; refine (keep_any B fn kn N mk FB A L w3 (M2.out.below k3).bk hfn (OK2.out.below k3) (by omega) (by omega) ⟨by omega, by omega⟩ (fun k i hk hb => CFB.out k i hk hb)).mono ?_; rintro e4 w4 ⟨rfl, fn', kn', mk', FB', bk4, g1, g2, g3, g4, c4, f4⟩; have hfin := Lib.hid (FIN.out w3 w4 fn' kn' mk' FB' k3 bk4 g1 g2 g3 g4 c4 f4); clear bk4 g1 g2 g3 g4 c4 f4))
    go_ret
    exact hfin.out
end
end Go.Proofs.Ytagkhhoimgighaa
