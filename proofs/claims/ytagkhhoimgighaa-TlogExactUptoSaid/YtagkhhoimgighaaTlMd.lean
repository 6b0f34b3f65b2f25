/- Package replicalaw10: moves: KNext; no call, by contract. -/
import Derived.Test.YtagkhhoimgighaaTlMc
namespace Go.Proofs.Ytagkhhoimgighaa
open Go.RowKit
set_option linter.unusedVariables false
set_option linter.unusedSimpArgs false
section
variable {Q : Nat → Nat → Prop} {w w' : World} {G R B k : Nat} {s : LogS} {r : RefT} {F : Nat → Nat → Prop} {FR : Nat → Prop} {FB : Nat → Nat → Prop} {fn kn : Nat} {mk : Int}
set_option maxRecDepth 20000 in
set_option maxHeartbeats 16000000 in
theorem moves_other (tl : Bool) (kd of_ a b : Int) (h : PS Q w G R B k s r F FR FB fn kn mk) (hk : k ≤ 8388608) (h0 : kd ≠ 0) (h1 : kd ≠ 1) (h2 : kd ≠ 2) (h3 : kd ≠ 3) (h4 : kd ≠ 4) (h10 : kd ≠ 10) :
    Calls Try.prog 22 #[.agg #[.pointer (some ⟨G, 0, none⟩), .pointer (some ⟨R, 0, none⟩)], .agg #[.int .i64 kd, .int .i64 of_, .int .i64 a, .int .i64 b], .bool tl, .pointer (some ⟨B, 0, none⟩)] w (MvP Q w G R B k) := by
  obtain ⟨X0, B0⟩ := boxes_bx w G R kd of_ a b
  obtain ⟨w0, hw0⟩ : ∃ W, W = boxes w G R kd of_ a b := ⟨_, rfl⟩
  rw [← hw0] at X0 B0
  have H := Lib.hid (h.ms' (h.ms.below B0))
  have hFlt : ∀ k i, F k i → k < w.heap.size := fun k i hk => h.ms.log.fp_lt hk
  have hBase : Chg Q w w0 := Chg.of_below Q B0
  obtain ⟨p0, p1, o0, o2, o3⟩ := X0.cells
  have HX := Lib.hid X0
  have HFL := Lib.hid hFlt
  have HBA := Lib.hid hBase
  have HW0 := Lib.hid hw0.symm
  obtain ⟨n, hn⟩ : ∃ n, n = w.heap.size := ⟨_, rfl⟩
  have HN := Lib.hid hn
  rw [← hn] at HX HFL p0 p1 o0 o2 o3
  have ht := h.turn
  have hop := h.opn
  have hone := h.sim.one
  have hrl := h.rlen
  clear h X0 B0 hFlt hBase hw0 hn
  have e0 : (kd == 0) = false := by rw [beq_eq_false_iff_ne]; exact h0
  have e1 : (kd == 1) = false := by rw [beq_eq_false_iff_ne]; exact h1
  have e2 : (kd == 2) = false := by rw [beq_eq_false_iff_ne]; exact h2
  have e3 : (kd == 3) = false := by rw [beq_eq_false_iff_ne]; exact h3
  have e4 : (kd == 4) = false := by rw [beq_eq_false_iff_ne]; exact h4
  have e10 : (kd == 10) = false := by rw [beq_eq_false_iff_ne]; exact h10
  have hfin := Lib.hid (show MvP Q w G R B k (.returned (.bool true)) w0 from ⟨rfl, HBA.out, _, _, _, _, _, _, _, _, H.out.next⟩)
  clear h0 h1 h2 h3 h4 h10
  go_enter Try.func22, Try.ntmps22
  go_upto_region 1 with fail
  have hbx : (w.alloc (.cells #[.pointer (some ⟨G, 0, none⟩), .pointer (some ⟨R, 0, none⟩)] 48)).alloc (.cells #[.int .i64 kd, .int .i64 of_, .int .i64 a, .int .i64 b] 29) = w0 := HW0.out
  rw [hbx, ← HN.out]
  clear hbx
  go_wp2_with fail
  go_ret
  exact hfin.out
set_option maxRecDepth 20000 in
set_option maxHeartbeats 16000000 in
theorem moves_next (tl : Bool) (of_ a b : Int) (h : PS Q w G R B k s r F FR FB fn kn mk) (hk : k ≤ 8388608) :
    Calls Try.prog 22 #[.agg #[.pointer (some ⟨G, 0, none⟩), .pointer (some ⟨R, 0, none⟩)], .agg #[.int .i64 10, .int .i64 of_, .int .i64 a, .int .i64 b], .bool tl, .pointer (some ⟨B, 0, none⟩)] w (MvP Q w G R B k) := by
  obtain ⟨X0, B0⟩ := boxes_bx w G R 10 of_ a b
  obtain ⟨w0, hw0⟩ : ∃ W, W = boxes w G R 10 of_ a b := ⟨_, rfl⟩
  rw [← hw0] at X0 B0
  have H := Lib.hid (h.ms' (h.ms.below B0))
  have hFlt : ∀ k i, F k i → k < w.heap.size := fun k i hk => h.ms.log.fp_lt hk
  have hBase : Chg Q w w0 := Chg.of_below Q B0
  obtain ⟨p0, p1, o0, o2, o3⟩ := X0.cells
  have HX := Lib.hid X0
  have HFL := Lib.hid hFlt
  have HBA := Lib.hid hBase
  have HW0 := Lib.hid hw0.symm
  obtain ⟨n, hn⟩ : ∃ n, n = w.heap.size := ⟨_, rfl⟩
  have HN := Lib.hid hn
  rw [← hn] at HX HFL p0 p1 o0 o2 o3
  have HRL := Lib.hid (show ∀ k, FR k → k < w.heap.size from fun k hk => h.ms.ref.lt hk)
  have HBL := Lib.hid (show ∀ k i, FB k i → k < w.heap.size from fun k i hk => h.ms.bk.lt hk)
  rw [← hn] at HRL HBL
  have hbn : ∀ k, n ≤ k → ∀ i, Q k i := by rw [hn]; exact h.ms.bs
  have hRn : R < n := by rw [hn]; obtain ⟨_, _, hq, _⟩ := h.ms.ref; exact hq.blk.lt
  have ht := h.turn
  have hop := h.opn
  have hone := h.sim.one
  have hrl := h.rlen
  clear h X0 B0 hFlt hBase hw0 hn
  have hfn := H.out.fn1
  have hkn := H.out.kn1
  have hm0 := H.out.mk0
  have hm1 := H.out.mk1
  have hlim := H.out.lim.2.1
  have hlen := H.out.len
  obtain ⟨pn, hpn⟩ : ∃ pn, r.lines.length = pn := ⟨_, rfl⟩
  obtain ⟨Ar, cr, hr0, _⟩ := H.out.ms.ref
  have r0 : w0.cell? ⟨R, 0, none⟩ = some (.slice Ar pn cr) := by rw [← hpn]; exact hr0.blk.cell 0
  have HR0 := Lib.hid hr0
  have HPN := Lib.hid hpn
  have hpb : pn ≤ 1024 := by omega
  cases hls : r.lines with
  | nil =>
    obtain rfl : pn = 0 := by rw [← hpn, hls]; rfl
    clear hls hpn hr0
    by_cases hb : barOk s a b
    · have A1 := Lib.hid (barrier_any a b H.out.ms.log hb)
      have HBok := Lib.hid hb
      obtain ⟨N, hN⟩ : ∃ N, N = lead s.ws a := ⟨_, rfl⟩
      have hNb : N ≤ 1024 := by have := lead_le s.ws a; omega
      obtain ⟨L, hL⟩ : ∃ L, L = (s.ws.take (lead s.ws a)).map entW := ⟨_, rfl⟩
      have HLL := Lib.hid (show L.length = N by rw [hL, List.length_map, List.length_take, hN]; have := lead_le s.ws a; omega)
      have HRO := Lib.hid (show rBarO r a = L by rw [hL]; exact H.out.sim.bar_out hb)
      have HL := Lib.hid hL
      have HNN := Lib.hid hN
      rw [← hN] at A1
      have hrok := (H.out.sim.bar_ok a b).2 hb
      have HROK := Lib.hid hrok
      clear hN hL hb hrok
      go_enter Try.func22, Try.ntmps22
      go_upto_region 1 with fail
      have hbx : (w.alloc (.cells #[.pointer (some ⟨G, 0, none⟩), .pointer (some ⟨R, 0, none⟩)] 48)).alloc (.cells #[.int .i64 10, .int .i64 of_, .int .i64 a, .int .i64 b] 29) = w0 := HW0.out
      rw [hbx, ← HN.out]
      clear hbx
      go_wp2_with fail
      refine A1.out.mono ?_
      rintro e1 w1 ⟨A, F1, rfl, L1, c1, f1, hd⟩
      have X1 := HX.out.chg c1 HFL.out
      obtain ⟨q0, q1, t0, t2, t3⟩ := X1.cells
      rw [HNN.out] at L1
      have M1 := Lib.hid (H.out.ms.logT L1 c1 fun k i hk => .inl (f1 k i hk))
      have C1 := Lib.hid c1
      have OK1 := Lib.hid (show okP w1 ⟨A, N, N, L⟩ from ⟨by rw [HL.out, ← HNN.out]; exact hd.1.ents, HLL.out⟩)
      have CF := Lib.hid (show ∀ k i, cellsP ⟨A, N, N, L⟩ k i → F k i ∧ ¬ F1 k i from hd.2.2)
      have CFB := Lib.hid (show ∀ k i, cellsP ⟨A, N, N, L⟩ k i → ¬ FB k i from fun k i hk hb => H.out.ms.dFB k i (hd.2.2 k i hk).1 hb)
      have A2 := rbar_yes a b M1.out.ref hrl HROK.out
      rw [HRO.out, HLL.out] at A2
      have HA2 := Lib.hid A2
      clear X1 L1 c1 f1 hd A2 r0 p0 p1 o0 o2 o3 A1
      go_wp2_with fail
      refine HA2.out.mono ?_
      rintro e2 w2 ⟨Ag, gc, rfl, hrd, ⟨FR2, R2, f2⟩, c2⟩
      have M2 := Lib.hid (M1.out.refT R2 c2 f2)
      have C2 := Lib.hid c2
      have OK2 := Lib.hid (OK1.out.chg c2 fun k i hk hr => H.out.ms.dFR k i (CF.out k i hk).1 hr)
      have F2 := Lib.hid (show ∀ k i, cellsP ⟨A, N, N, L⟩ k i → ¬ FR2 k from fun k i hk hr => by
        rcases f2 k hr with h | h
        · exact H.out.ms.dFR k i (CF.out k i hk).1 h
        · obtain ⟨cs, hb⟩ := OK1.out.cells hk
          have := hb.lt
          omega)
      have FIN := Lib.hid (show ∀ (w3 w4 : World) (fn' kn' : Nat) (mk' : Int) (FB' : Nat → Nat → Prop), Below w2.heap.size w2 w3 → BkAt w4 B fn' kn' mk' FB' → fn' ≤ 1 → kn' ≤ kn + 4 → mk ≤ mk' → mk' ≤ mk + 2 → Chg (fun k i => FB k i ∨ cellsP ⟨A, N, N, L⟩ k i) w3 w4 → (∀ k i, FB' k i → FB k i ∨ cellsP ⟨A, N, N, L⟩ k i ∨ w3.heap.size ≤ k) → MvP Q w G R B k (.returned (.bool true)) w4 from fun w3 w4 fn' kn' mk' FB' k3 bk4 g1 g2 g3 g4 c4 f4 => by
        have M3 := M2.out.below k3
        have M4 := M3.bookT bk4 c4 f4 (fun k i hk => (CF.out k i hk).2) F2.out fun k i hk => H.out.ms.fF k i (CF.out k i hk).1
        refine ⟨rfl, ?_, _, _, _, _, _, _, _, _, H.out.barred HBok.out M4 g1 g2 g3 g4⟩
        have k1 := C1.out.mono (F' := Q) fun k i hk hf => H.out.ms.fF k i hf
        have k2 := C2.out.mono (F' := Q) fun k i hk hf => M1.out.fR k hf i
        have k4 := c4.mono (F' := Q) fun k i hk hf => hf.elim (H.out.ms.fB k i) fun hf => H.out.ms.fF k i (CF.out k i hf).1
        exact (((HBA.out.trans k1 fun _ _ _ h => h).trans k2 fun _ _ _ h => h).trans (Chg.of_below Q k3) fun _ _ _ h => h).trans k4 fun _ _ _ h => h)
      have SE := sameEntries_any (cA := N) (cB := gc) OK2.out.1.rds hrd (by rw [HLL.out]; omega) (by rw [HLL.out]; omega)
      rw [HLL.out, decide_eq_true (rfl : L = L)] at SE
      have HSE := Lib.hid SE
      clear R2 f2 c2 hrd HA2 SE q0 q1 t0 t2 t3
      go_wp2_with (first
        | (go_at_call 25; refine HSE.out.mono ?_; rintro e3 w3 ⟨rfl, k3⟩)
        | (go_at_call 14; refine (num_any _ _).mono ?_; rintro e8 w8 ⟨rfl, rfl⟩)
        | (go_at_call 38; refine (keep_any B fn kn N mk FB A L w3 (M2.out.below k3).bk hfn (OK2.out.below k3) (by omega) (by omega) ⟨by omega, by omega⟩ (fun k i hk hb => CFB.out k i hk hb)).mono ?_; rintro e4 w4 ⟨rfl, fn', kn', mk', FB', bk4, g1, g2, g3, g4, c4, f4⟩; have hfin := Lib.hid (FIN.out w3 w4 fn' kn' mk' FB' k3 bk4 g1 g2 g3 g4 c4 f4); clear bk4 g1 g2 g3 g4 c4 f4))
      go_ret
      exact hfin.out
    · obtain ⟨Ai, ci, bi, ni, hin, _⟩ := H.out.ms.log
      have A1 := Lib.hid (barrier_no a b hin hb)
      have hnr : ¬ rBarOk r a b := fun h => hb ((H.out.sim.bar_ok a b).1 h)
      have A2 := Lib.hid (fun m => rbar_no a b (H.out.ms.below (below_drewN (Below.refl _ _) m)).ref hrl hnr)
      clear hin hb hnr
      go_enter Try.func22, Try.ntmps22
      go_upto_region 1 with fail
      have hbx : (w.alloc (.cells #[.pointer (some ⟨G, 0, none⟩), .pointer (some ⟨R, 0, none⟩)] 48)).alloc (.cells #[.int .i64 10, .int .i64 of_, .int .i64 a, .int .i64 b] 29) = w0 := HW0.out
      rw [hbx, ← HN.out]
      clear hbx
      go_wp2_with fail
      refine A1.out.mono ?_
      rintro e1 w1 ⟨rfl, m1, rfl⟩
      go_wp2_with fail
      refine (A2.out m1).mono ?_
      rintro e2 w2 ⟨rfl, m2, rfl⟩
      obtain ⟨w2, hw2⟩ : ∃ W, W = (w0.drewN m1).drewN m2 := ⟨_, rfl⟩
      have M2 := Lib.hid (show MS Q w2 G R B s r F FR FB fn kn mk from by rw [hw2]; exact H.out.ms.below (below_drewN (below_drewN (Below.refl _ _) m1) m2))
      have B2 := Lib.hid (show Chg Q w w2 from by rw [hw2]; exact (HBA.out.drewN m1).drewN m2)
      obtain ⟨A, hA⟩ : ∃ A : Option Addr, A = none := ⟨_, rfl⟩
      obtain ⟨L, hL⟩ : ∃ L : List Ent3, L = [] := ⟨_, rfl⟩
      obtain ⟨N, hN⟩ : ∃ N : Nat, N = 0 := ⟨_, rfl⟩
      have HLL := Lib.hid (show L.length = N by rw [hL, hN]; rfl)
      have OK2 := Lib.hid (show okP w2 ⟨A, N, N, L⟩ from by rw [hA, hL, hN]; exact ⟨GSl.nil_, rfl⟩)
      have hrd : RdS encE 3 w2 A L := OK2.out.1.rds
      have hemp : ∀ k i, ¬ cellsP ⟨A, N, N, L⟩ k i := fun k i ⟨o, e, _⟩ => by rw [hA] at e; cases e
      have HEMP := Lib.hid hemp
      have CFB := Lib.hid (show ∀ k i, cellsP ⟨A, N, N, L⟩ k i → ¬ FB k i from fun k i hk _ => hemp k i hk)
      have FIN := Lib.hid (show ∀ (w3 w4 : World) (fn' kn' : Nat) (mk' : Int) (FB' : Nat → Nat → Prop), Below w2.heap.size w2 w3 → BkAt w4 B fn' kn' mk' FB' → fn' ≤ 1 → kn' ≤ kn + 4 → mk ≤ mk' → mk' ≤ mk + 2 → Chg (fun k i => FB k i ∨ cellsP ⟨A, N, N, L⟩ k i) w3 w4 → (∀ k i, FB' k i → FB k i ∨ cellsP ⟨A, N, N, L⟩ k i ∨ w3.heap.size ≤ k) → MvP Q w G R B k (.returned (.bool true)) w4 from fun w3 w4 fn' kn' mk' FB' k3 bk4 g1 g2 g3 g4 c4 f4 => by
        have M3 := M2.out.below k3
        have M4 := M3.bookT bk4 c4 f4 (fun k i hk => (HEMP.out k i hk).elim) (fun k i hk => (HEMP.out k i hk).elim) fun k i hk => (HEMP.out k i hk).elim
        refine ⟨rfl, ?_, _, _, _, _, _, _, _, _, H.out.keptB M4 g1 g2 g3 g4⟩
        have k4 := c4.mono (F' := Q) fun k i hk hf => hf.elim (H.out.ms.fB k i) fun hf => (HEMP.out k i hf).elim
        exact (B2.out.trans (Chg.of_below Q k3) fun _ _ _ h => h).trans k4 fun _ _ _ h => h)
      have hNb : N ≤ 1024 := by omega
      have SE := sameEntries_any (cA := N) (cB := N) OK2.out.1.rds hrd (by rw [HLL.out]; omega) (by rw [HLL.out]; omega)
      rw [HLL.out, decide_eq_true (rfl : L = L)] at SE
      have HSE := Lib.hid SE
      rw [← hw2, show Value.slice none 0 0 = Value.slice A N N by rw [hA, hN]]
      clear SE hrd hemp hA hL hN hw2 A1 A2 p0 p1 o0 o2 o3
      go_wp2_with (first
        | (go_at_call 25; refine HSE.out.mono ?_; rintro e3 w3 ⟨rfl, k3⟩)
        | (go_at_call 14; refine (num_any _ _).mono ?_; rintro e8 w8 ⟨rfl, rfl⟩)
        | (go_at_call 38; refine (keep_any B fn kn N mk FB A L w3 (M2.out.below k3).bk hfn (OK2.out.below k3) (by omega) (by omega) ⟨by omega, by omega⟩ (fun k i hk hb => CFB.out k i hk hb)).mono ?_; rintro e4 w4 ⟨rfl, fn', kn', mk', FB', bk4, g1, g2, g3, g4, c4, f4⟩; have hfin := Lib.hid (FIN.out w3 w4 fn' kn' mk' FB' k3 bk4 g1 g2 g3 g4 c4 f4); clear bk4 g1 g2 g3 g4 c4 f4))
      go_ret
      exact hfin.out
  | cons x l =>
    have hp1 : 0 < pn := by rw [← hpn, hls]; simp
    have hp1' : (0 : Int) < (pn : Int) := by omega
    obtain ⟨g0, off0, y, hAr, hg0, hy, hcell⟩ := hr0.row.rds.at_ (k := 0) (by rw [hpn]; omega)
    obtain ⟨yi, yb, ye, ya⟩ := y
    have x2 : w0.cell? ⟨g0, off0 + 2, none⟩ = some (.int .i64 ye) := by simpa using hcell 2 _ rfl
    subst hAr
    have z2 : w0.frozen? ⟨n + 1, 2, none⟩ = false := HX.out.o.frozen 2
    have z3 : w0.frozen? ⟨n + 1, 3, none⟩ = false := HX.out.o.frozen 3
    have hgn : g0 < n := by
      obtain ⟨Aq, cq, hq, hqF⟩ := H.out.ms.ref
      have e1 := hq.blk.cell 0
      rw [hr0.blk.cell 0] at e1
      have e2 := Option.some.inj e1
      injection e2 with e3
      exact HRL.out g0 ((hqF g0).2 (.inr ⟨_, e3.symm, rfl⟩))
    obtain ⟨wa, hwa⟩ : ∃ W, W = (w0.setCell ⟨n + 1, 2, none⟩ (.int .i64 ye)).setCell ⟨n + 1, 3, none⟩ (.int .i64 0) := ⟨_, rfl⟩
    have HWA := Lib.hid hwa.symm
    have ca : Chg (fun k _ => k = n + 1) w0 wa := by rw [hwa]; exact (Chg.setCell (fun k _ => k = n + 1) w0 (g := n + 1) (i := 2) rfl _).trans (Chg.setCell (fun k _ => k = n + 1) _ (g := n + 1) (i := 3) rfl _) fun _ _ _ h => h
    have HXA := Lib.hid (show Bx wa G R 10 of_ ye 0 n from ⟨ca.blk HX.out.p fun i e => by omega, by rw [hwa]; exact (HX.out.o.set_ 2 _).set_ 3 _⟩)
    have HCA := Lib.hid ca
    clear hls hpn hr0 hcell hy hwa ca
    go_enter Try.func22, Try.ntmps22
    go_upto_region 1 with fail
    have hbx : (w.alloc (.cells #[.pointer (some ⟨G, 0, none⟩), .pointer (some ⟨R, 0, none⟩)] 48)).alloc (.cells #[.int .i64 10, .int .i64 of_, .int .i64 a, .int .i64 b] 29) = w0 := HW0.out
    rw [hbx, ← HN.out]
    clear hbx
    go_upto_region 20 with fail
    rw [HWA.out]
    clear z2 z3 x2 r0 p0 p1 o0 o2 o3
    go_wp2_with fail
    go_loopw [26] (fun t26 wr => ∃ j m : Nat, j ≤ pn ∧ m ≤ j ∧ t26 = .int .i64 (j : Int) ∧ Hid (Bx wr G R 10 of_ ye (m : Int) n) ∧ Hid (Chg (fun k _ => k = n + 1) w0 wr) ∧ Hid (ofR (r.lines.take j) ye = m)) (fun t26 _ => pn - (intOf t26).toNat)
    case atStart => exact ⟨0, 0, Nat.zero_le _, Nat.le_refl _, rfl, HXA, HCA, Lib.hid rfl⟩
    case round =>
      obtain ⟨j, m, hj, hmj, rfl, hX, hC, hm⟩ := hrel
      obtain ⟨p0, p1, o0, o2, o3⟩ := hX.out.cells
      have hr := HR0.out.chg hC.out fun k hk i e => by
        rcases hk with h | ⟨_, e2, h⟩
        · omega
        · cases e2; have h : g0 = k := h; omega
      have r0 : wr.cell? ⟨R, 0, none⟩ = some (.slice (some ⟨g0, off0, none⟩) pn cr) := by rw [← HPN.out]; exact hr.blk.cell 0
      by_cases hlj : j < pn
      · have hlj' : (j : Int) < (pn : Int) := by omega
        obtain ⟨g1, off1, x1, hA1, _, hx1, hcell⟩ := hr.row.rds.at_ (show j < r.lines.length by rw [HPN.out]; exact hlj)
        cases hA1
        have y2 : wr.cell? ⟨g0, off0 + j * 4 + 2, none⟩ = some (.int .i64 x1.2.2.1) := hcell 2 _ rfl
        have hs := ofR_take ye hx1
        rw [hm.out] at hs
        have T0 : wr.drew.cell? ⟨n, 1, none⟩ = some (.pointer (some ⟨R, 0, none⟩)) ∧ wr.drew.cell? ⟨R, 0, none⟩ = some (.slice (some ⟨g0, off0, none⟩) pn cr) ∧ wr.drew.cell? ⟨g0, off0 + j * 4 + 2, none⟩ = some (.int .i64 x1.2.2.1) ∧ wr.drew.cell? ⟨n + 1, 2, none⟩ = some (.int .i64 ye) := ⟨p1, r0, y2, o2⟩
        have z3 : wr.frozen? ⟨n + 1, 3, none⟩ = false := hX.out.o.frozen 3
        clear hr hcell hx1
        cases hxe : (x1.2.2.1 == ye) with
        | false =>
          rw [hxe] at hs
          have hf := Lib.hid (show ofR (r.lines.take (j + 1)) ye = m from hs)
          have hX2 := Lib.hid (show Bx wr.drew G R 10 of_ ye (m : Int) n from ⟨hX.out.p, hX.out.o⟩)
          have hC2 := Lib.hid hC.out.drew
          clear hs
          go_wp2_with fail
          go_region_held3 (fun w' => w'.cell? ⟨n, 1, none⟩ = some (.pointer (some ⟨R, 0, none⟩)) ∧ w'.cell? ⟨R, 0, none⟩ = some (.slice (some ⟨g0, off0, none⟩) pn cr) ∧ w'.cell? ⟨g0, off0 + j * 4 + 2, none⟩ = some (.int .i64 x1.2.2.1) ∧ w'.cell? ⟨n + 1, 2, none⟩ = some (.int .i64 ye)) (exact T0) (fail)
          go_wp2
          go_roundw
          case rel => exact ⟨j + 1, m, by omega, by omega, by go_num, hX2, hC2, hf⟩
          case measure => simp [intOf]; omega
        | true =>
          rw [hxe] at hs
          have hf := Lib.hid (show ofR (r.lines.take (j + 1)) ye = m + 1 from hs)
          have hX2 := Lib.hid (show Bx (wr.drew.setCell ⟨n + 1, 3, none⟩ (.int .i64 ((m : Int) + 1))) G R 10 of_ ye ((m + 1 : Nat) : Int) n from ⟨(show Blk wr.drew n _ _ from hX.out.p).far (p := ⟨n + 1, 3, none⟩) (by show n ≠ n + 1; omega) _, (show Blk wr.drew (n + 1) _ _ from hX.out.o).set_ 3 _⟩)
          have hC2 := Lib.hid (show Chg (fun k _ => k = n + 1) w0 (wr.drew.setCell ⟨n + 1, 3, none⟩ (.int .i64 ((m : Int) + 1))) from hC.out.drew.trans (Chg.setCell (fun k _ => k = n + 1) wr.drew (g := n + 1) (i := 3) rfl _) fun _ _ _ h => h)
          clear hs
          go_wp2_with fail
          go_region_held3 (fun w' => w'.cell? ⟨n, 1, none⟩ = some (.pointer (some ⟨R, 0, none⟩)) ∧ w'.cell? ⟨R, 0, none⟩ = some (.slice (some ⟨g0, off0, none⟩) pn cr) ∧ w'.cell? ⟨g0, off0 + j * 4 + 2, none⟩ = some (.int .i64 x1.2.2.1) ∧ w'.cell? ⟨n + 1, 2, none⟩ = some (.int .i64 ye)) (exact T0) (fail)
          go_wp2
          go_roundw
          case rel => exact ⟨j + 1, m + 1, by omega, by omega, by go_num, hX2, hC2, hf⟩
          case measure => simp [intOf]; omega
      · obtain rfl : j = pn := by omega
        obtain ⟨v, hv⟩ : ∃ v, v = wr := ⟨_, rfl⟩
        subst hv
        have HBA := Lib.hid (show Chg Q w v from HBA.out.trans hC.out fun k i hk e => hbn k (by omega) i)
        have H := Lib.hid (show PS Q v G R B k s r F FR FB fn kn mk from H.out.ms' (H.out.ms.other hC.out (fun k i hk e => by have := HFL.out k i hk; omega) (fun k hk i e => by have := HRL.out k hk; omega) fun k i hk e => by have := HBL.out k i hk; omega))
        have HX := hX
        obtain ⟨eb, heb⟩ : ∃ eb : Int, eb = (m : Int) := ⟨_, rfl⟩
        rw [← heb] at HX o3
        clear hr hm heb hC hX
        by_cases hb : barOk s ye eb
        · have A1 := Lib.hid (barrier_any ye eb H.out.ms.log hb)
          have HBok := Lib.hid hb
          obtain ⟨N, hN⟩ : ∃ N, N = lead s.ws ye := ⟨_, rfl⟩
          have hNb : N ≤ 1024 := by have := lead_le s.ws ye; omega
          obtain ⟨L, hL⟩ : ∃ L, L = (s.ws.take (lead s.ws ye)).map entW := ⟨_, rfl⟩
          have HLL := Lib.hid (show L.length = N by rw [hL, List.length_map, List.length_take, hN]; have := lead_le s.ws ye; omega)
          have HRO := Lib.hid (show rBarO r ye = L by rw [hL]; exact H.out.sim.bar_out hb)
          have HL := Lib.hid hL
          have HNN := Lib.hid hN
          rw [← hN] at A1
          have hrok := (H.out.sim.bar_ok ye eb).2 hb
          have HROK := Lib.hid hrok
          clear hN hL hb hrok
          
          go_wp2_with fail
          refine A1.out.mono ?_
          rintro e1 w1 ⟨A, F1, rfl, L1, c1, f1, hd⟩
          have X1 := HX.out.chg c1 HFL.out
          obtain ⟨q0, q1, t0, t2, t3⟩ := X1.cells
          rw [HNN.out] at L1
          have M1 := Lib.hid (H.out.ms.logT L1 c1 fun k i hk => .inl (f1 k i hk))
          have C1 := Lib.hid c1
          have OK1 := Lib.hid (show okP w1 ⟨A, N, N, L⟩ from ⟨by rw [HL.out, ← HNN.out]; exact hd.1.ents, HLL.out⟩)
          have CF := Lib.hid (show ∀ k i, cellsP ⟨A, N, N, L⟩ k i → F k i ∧ ¬ F1 k i from hd.2.2)
          have CFB := Lib.hid (show ∀ k i, cellsP ⟨A, N, N, L⟩ k i → ¬ FB k i from fun k i hk hb => H.out.ms.dFB k i (hd.2.2 k i hk).1 hb)
          have A2 := rbar_yes ye eb M1.out.ref hrl HROK.out
          rw [HRO.out, HLL.out] at A2
          have HA2 := Lib.hid A2
          clear X1 L1 c1 f1 hd A2 p0 p1 o0 o2 o3 A1
          go_wp2_with fail
          refine HA2.out.mono ?_
          rintro e2 w2 ⟨Ag, gc, rfl, hrd, ⟨FR2, R2, f2⟩, c2⟩
          have M2 := Lib.hid (M1.out.refT R2 c2 f2)
          have C2 := Lib.hid c2
          have OK2 := Lib.hid (OK1.out.chg c2 fun k i hk hr => H.out.ms.dFR k i (CF.out k i hk).1 hr)
          have F2 := Lib.hid (show ∀ k i, cellsP ⟨A, N, N, L⟩ k i → ¬ FR2 k from fun k i hk hr => by
            rcases f2 k hr with h | h
            · exact H.out.ms.dFR k i (CF.out k i hk).1 h
            · obtain ⟨cs, hb⟩ := OK1.out.cells hk
              have := hb.lt
              omega)
          have FIN := Lib.hid (show ∀ (w3 w4 : World) (fn' kn' : Nat) (mk' : Int) (FB' : Nat → Nat → Prop), Below w2.heap.size w2 w3 → BkAt w4 B fn' kn' mk' FB' → fn' ≤ 1 → kn' ≤ kn + 4 → mk ≤ mk' → mk' ≤ mk + 2 → Chg (fun k i => FB k i ∨ cellsP ⟨A, N, N, L⟩ k i) w3 w4 → (∀ k i, FB' k i → FB k i ∨ cellsP ⟨A, N, N, L⟩ k i ∨ w3.heap.size ≤ k) → MvP Q w G R B k (.returned (.bool true)) w4 from fun w3 w4 fn' kn' mk' FB' k3 bk4 g1 g2 g3 g4 c4 f4 => by
            have M3 := M2.out.below k3
            have M4 := M3.bookT bk4 c4 f4 (fun k i hk => (CF.out k i hk).2) F2.out fun k i hk => H.out.ms.fF k i (CF.out k i hk).1
            refine ⟨rfl, ?_, _, _, _, _, _, _, _, _, H.out.barred HBok.out M4 g1 g2 g3 g4⟩
            have k1 := C1.out.mono (F' := Q) fun k i hk hf => H.out.ms.fF k i hf
            have k2 := C2.out.mono (F' := Q) fun k i hk hf => M1.out.fR k hf i
            have k4 := c4.mono (F' := Q) fun k i hk hf => hf.elim (H.out.ms.fB k i) fun hf => H.out.ms.fF k i (CF.out k i hf).1
            exact (((HBA.out.trans k1 fun _ _ _ h => h).trans k2 fun _ _ _ h => h).trans (Chg.of_below Q k3) fun _ _ _ h => h).trans k4 fun _ _ _ h => h)
          have SE := sameEntries_any (cA := N) (cB := gc) OK2.out.1.rds hrd (by rw [HLL.out]; omega) (by rw [HLL.out]; omega)
          rw [HLL.out, decide_eq_true (rfl : L = L)] at SE
          have HSE := Lib.hid SE
          clear R2 f2 c2 hrd HA2 SE q0 q1 t0 t2 t3
          go_wp2_with (first
            | (go_at_call 25; refine HSE.out.mono ?_; rintro e3 w3 ⟨rfl, k3⟩)
            | (go_at_call 14; refine (num_any _ _).mono ?_; rintro e8 w8 ⟨rfl, rfl⟩)
            | (go_at_call 38; refine (keep_any B fn kn N mk FB A L w3 (M2.out.below k3).bk hfn (OK2.out.below k3) (by omega) (by omega) ⟨by omega, by omega⟩ (fun k i hk hb => CFB.out k i hk hb)).mono ?_; rintro e4 w4 ⟨rfl, fn', kn', mk', FB', bk4, g1, g2, g3, g4, c4, f4⟩; have hfin := Lib.hid (FIN.out w3 w4 fn' kn' mk' FB' k3 bk4 g1 g2 g3 g4 c4 f4); clear bk4 g1 g2 g3 g4 c4 f4))
          go_ret
          exact hfin.out
        · obtain ⟨Ai, ci, bi, ni, hin, _⟩ := H.out.ms.log
          have A1 := Lib.hid (barrier_no ye eb hin hb)
          have hnr : ¬ rBarOk r ye eb := fun h => hb ((H.out.sim.bar_ok ye eb).1 h)
          have A2 := Lib.hid (fun m => rbar_no ye eb (H.out.ms.below (below_drewN (Below.refl _ _) m)).ref hrl hnr)
          clear hin hb hnr
          
          go_wp2_with fail
          refine A1.out.mono ?_
          rintro e1 w1 ⟨rfl, m1, rfl⟩
          go_wp2_with fail
          refine (A2.out m1).mono ?_
          rintro e2 w2 ⟨rfl, m2, rfl⟩
          obtain ⟨w2, hw2⟩ : ∃ W, W = (v.drewN m1).drewN m2 := ⟨_, rfl⟩
          have M2 := Lib.hid (show MS Q w2 G R B s r F FR FB fn kn mk from by rw [hw2]; exact H.out.ms.below (below_drewN (below_drewN (Below.refl _ _) m1) m2))
          have B2 := Lib.hid (show Chg Q w w2 from by rw [hw2]; exact (HBA.out.drewN m1).drewN m2)
          obtain ⟨A, hA⟩ : ∃ A : Option Addr, A = none := ⟨_, rfl⟩
          obtain ⟨L, hL⟩ : ∃ L : List Ent3, L = [] := ⟨_, rfl⟩
          obtain ⟨N, hN⟩ : ∃ N : Nat, N = 0 := ⟨_, rfl⟩
          have HLL := Lib.hid (show L.length = N by rw [hL, hN]; rfl)
          have OK2 := Lib.hid (show okP w2 ⟨A, N, N, L⟩ from by rw [hA, hL, hN]; exact ⟨GSl.nil_, rfl⟩)
          have hrd : RdS encE 3 w2 A L := OK2.out.1.rds
          have hemp : ∀ k i, ¬ cellsP ⟨A, N, N, L⟩ k i := fun k i ⟨o, e, _⟩ => by rw [hA] at e; cases e
          have HEMP := Lib.hid hemp
          have CFB := Lib.hid (show ∀ k i, cellsP ⟨A, N, N, L⟩ k i → ¬ FB k i from fun k i hk _ => hemp k i hk)
          have FIN := Lib.hid (show ∀ (w3 w4 : World) (fn' kn' : Nat) (mk' : Int) (FB' : Nat → Nat → Prop), Below w2.heap.size w2 w3 → BkAt w4 B fn' kn' mk' FB' → fn' ≤ 1 → kn' ≤ kn + 4 → mk ≤ mk' → mk' ≤ mk + 2 → Chg (fun k i => FB k i ∨ cellsP ⟨A, N, N, L⟩ k i) w3 w4 → (∀ k i, FB' k i → FB k i ∨ cellsP ⟨A, N, N, L⟩ k i ∨ w3.heap.size ≤ k) → MvP Q w G R B k (.returned (.bool true)) w4 from fun w3 w4 fn' kn' mk' FB' k3 bk4 g1 g2 g3 g4 c4 f4 => by
            have M3 := M2.out.below k3
            have M4 := M3.bookT bk4 c4 f4 (fun k i hk => (HEMP.out k i hk).elim) (fun k i hk => (HEMP.out k i hk).elim) fun k i hk => (HEMP.out k i hk).elim
            refine ⟨rfl, ?_, _, _, _, _, _, _, _, _, H.out.keptB M4 g1 g2 g3 g4⟩
            have k4 := c4.mono (F' := Q) fun k i hk hf => hf.elim (H.out.ms.fB k i) fun hf => (HEMP.out k i hf).elim
            exact (B2.out.trans (Chg.of_below Q k3) fun _ _ _ h => h).trans k4 fun _ _ _ h => h)
          have hNb : N ≤ 1024 := by omega
          have SE := sameEntries_any (cA := N) (cB := N) OK2.out.1.rds hrd (by rw [HLL.out]; omega) (by rw [HLL.out]; omega)
          rw [HLL.out, decide_eq_true (rfl : L = L)] at SE
          have HSE := Lib.hid SE
          rw [← hw2, show Value.slice none 0 0 = Value.slice A N N by rw [hA, hN]]
          clear SE hrd hemp hA hL hN hw2 A1 A2 p0 p1 o0 o2 o3
          go_wp2_with (first
            | (go_at_call 25; refine HSE.out.mono ?_; rintro e3 w3 ⟨rfl, k3⟩)
            | (go_at_call 14; refine (num_any _ _).mono ?_; rintro e8 w8 ⟨rfl, rfl⟩)
            | (go_at_call 38; refine (keep_any B fn kn N mk FB A L w3 (M2.out.below k3).bk hfn (OK2.out.below k3) (by omega) (by omega) ⟨by omega, by omega⟩ (fun k i hk hb => CFB.out k i hk hb)).mono ?_; rintro e4 w4 ⟨rfl, fn', kn', mk', FB', bk4, g1, g2, g3, g4, c4, f4⟩; have hfin := Lib.hid (FIN.out w3 w4 fn' kn' mk' FB' k3 bk4 g1 g2 g3 g4 c4 f4); clear bk4 g1 g2 g3 g4 c4 f4))
          go_ret
          exact hfin.out
end
end Go.Proofs.Ytagkhhoimgighaa
