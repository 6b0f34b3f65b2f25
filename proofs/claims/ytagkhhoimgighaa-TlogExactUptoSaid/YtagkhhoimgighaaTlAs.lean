/- Package replicalaw10: asks, by contract. -/
import Derived.Test.YtagkhhoimgighaaTlMd
import Derived.Test.YtagkhhoimgighaaTlAr
import Derived.Test.YtagkhhoimgighaaTlUc
namespace Go.Proofs.Ytagkhhoimgighaa
open Go.RowKit
set_option linter.unusedVariables false
set_option linter.unusedSimpArgs false
theorem quiet_left2 {P : Program} {f : FuncId} {args : Array Value} {w : World} {n : Nat} {v : Value} (h : Calls P f args (w.drewN n) fun e w' => e = .returned v ∧ ∃ m, w' = (w.drewN n).drewN m) : Calls P f args (w.drewN n) fun e w' => e = .returned v ∧ ∃ m, w' = w.drewN m := by
  refine h.mono ?_
  rintro e w' ⟨rfl, m, rfl⟩
  exact ⟨rfl, n + m, by simp [World.drewN, Nat.add_assoc]⟩
section
variable {Q : Nat → Nat → Prop} {w w' : World} {G R B k : Nat} {s : LogS} {r : RefT} {F : Nat → Nat → Prop} {FR : Nat → Prop} {FB : Nat → Nat → Prop} {fn kn : Nat} {mk : Int}
theorem PS.drewN (h : PS Q w G R B k s r F FR FB fn kn mk) (m : Nat) : PS Q (w.drewN m) G R B k s r F FR FB fn kn mk := h.ms' (h.ms.below (below_drewN (Below.refl _ _) m))
/-- the answers of the program's log and of the document's are one -/
theorem PS.open2 (h : PS Q w G R B k s r F FR FB fn kn mk) : (∀ m, Calls Try.prog 16 #[.pointer (some ⟨G, 0, none⟩)] (w.drewN m) fun e w' => e = .returned (.int .i64 s.opn) ∧ w.drewN m = w') ∧ ∀ m, Calls Try.prog 42 #[.pointer (some ⟨R, 0, none⟩)] (w.drewN m) fun e w' => e = .returned (.int .i64 s.opn) ∧ w.drewN m = w' :=
  ⟨fun m => open_any (h.drewN m).ms.log, fun m => by rw [← h.sim.now]; exact ropen_any (h.drewN m).ms.ref⟩
theorem PS.size2 (h : PS Q w G R B k s r F FR FB fn kn mk) : (∀ m, Calls Try.prog 26 #[.pointer (some ⟨G, 0, none⟩)] (w.drewN m) fun e w' => e = .returned (.int .i64 (s.ws.length : Int)) ∧ w.drewN m = w') ∧ ∀ m, Calls Try.prog 43 #[.pointer (some ⟨R, 0, none⟩)] (w.drewN m) fun e w' => e = .returned (.int .i64 (s.ws.length : Int)) ∧ w.drewN m = w' :=
  ⟨fun m => size_any (h.drewN m).ms.log, fun m => by rw [← h.sim.len]; exact rsize_any (h.drewN m).ms.ref⟩
def epN (s : LogS) : Int := match s.ws with | [] => 0 | x :: _ => s.opn - x.ep
theorem PS.epochs2 (h : PS Q w G R B k s r F FR FB fn kn mk) (hk : k ≤ 8388608) : (∀ m, Calls Try.prog 17 #[.pointer (some ⟨G, 0, none⟩)] (w.drewN m) fun e w' => e = .returned (.int .i64 (epN s)) ∧ ∃ j, w' = (w.drewN m).drewN j) ∧ ∀ m, Calls Try.prog 44 #[.pointer (some ⟨R, 0, none⟩)] (w.drewN m) fun e w' => e = .returned (.int .i64 (epN s)) ∧ w.drewN m = w' := by
  refine ⟨fun m => epochs_any (h.drewN m).ms.log fun x hx => ?_, fun m => ?_⟩
  · have := h.sim.top x hx; have := h.opn; omega
  · have := repochs_any (h.drewN m).ms.ref h.rlen
    rw [h.sim.epochs] at this
    exact this
def setN (s : LogS) (ep : Int) : Bool := match s.ws with | [] => true | x :: _ => decide (x.ep > ep)
theorem PS.settled2 (h : PS Q w G R B k s r F FR FB fn kn mk) (ep : Int) : (∀ m, Calls Try.prog 20 #[.pointer (some ⟨G, 0, none⟩), .int .i64 ep] (w.drewN m) fun e w' => e = .returned (.bool (setN s ep)) ∧ w.drewN m = w') ∧ ∀ m, Calls Try.prog 46 #[.pointer (some ⟨R, 0, none⟩), .int .i64 ep] (w.drewN m) fun e w' => e = .returned (.bool (setN s ep)) ∧ w.drewN m = w' := by
  refine ⟨fun m => settled_any ep (h.drewN m).ms.log, fun m => ?_⟩
  have := rsettled_any ep (h.drewN m).ms.ref
  rw [h.sim.settled] at this
  exact this
theorem PS.next2 (h : PS Q w G R B k s r F FR FB fn kn mk) (hc : Chg Q w' w) : MvP Q w' G R B (k + 1) (.returned (.bool true)) w := ⟨rfl, hc, _, _, _, _, _, _, _, _, h.next.next⟩
set_option maxRecDepth 20000 in
set_option maxHeartbeats 16000000 in
theorem asks_calm (kd of_ a b : Int) (h : PS Q w G R B k s r F FR FB fn kn mk) (hk : k ≤ 8388608) (h8 : kd ≠ 8) :
    Calls Try.prog 29 #[.agg #[.pointer (some ⟨G, 0, none⟩), .pointer (some ⟨R, 0, none⟩)], .agg #[.int .i64 kd, .int .i64 of_, .int .i64 a, .int .i64 b], .pointer (some ⟨B, 0, none⟩)] w (MvP Q w G R B (k + 1)) := by
  obtain ⟨X0, B0⟩ := boxes_bx w G R kd of_ a b
  obtain ⟨w0, hw0⟩ : ∃ W, W = boxes w G R kd of_ a b := ⟨_, rfl⟩
  rw [← hw0] at X0 B0
  have H := Lib.hid (h.ms' (h.ms.below B0))
  have hBase : Chg Q w w0 := Chg.of_below Q B0
  obtain ⟨p0, p1, o0, o2, o3⟩ := X0.cells
  have HBA := Lib.hid hBase
  have HW0 := Lib.hid hw0.symm
  obtain ⟨n, hn⟩ : ∃ n, n = w.heap.size := ⟨_, rfl⟩
  have HN := Lib.hid hn
  rw [← hn] at p0 p1 o0 o2 o3
  clear h X0 B0 hBase hw0 hn
  have e8 : (kd == 8) = false := by rw [beq_eq_false_iff_ne]; exact h8
  have hfin := fun m => Lib.hid (show MvP Q w G R B (k + 1) (.returned (.bool true)) (w0.drewN m) from (H.out.drewN m).next2 (HBA.out.drewN m))
  clear h8
  by_cases h5 : kd = 5
  · subst h5
    obtain ⟨g1, g2⟩ := H.out.open2
    have GA := Lib.hid g1
    have GB := Lib.hid g2
    clear g1 g2
    go_enter Try.func29, Try.ntmps29
    go_upto_region 1 with fail
    have hbx : (w.alloc (.cells #[.pointer (some ⟨G, 0, none⟩), .pointer (some ⟨R, 0, none⟩)] 48)).alloc (.cells #[.int .i64 5, .int .i64 of_, .int .i64 a, .int .i64 b] 29) = w0 := HW0.out
    rw [hbx, ← HN.out]
    clear hbx
    go_wp2_with fail
    go_quiet ((first | (go_at_call 16; with_reducible exact quiet_left (GA.out _)) | (go_at_call 42; with_reducible exact quiet_left (GB.out _))))
    go_wp2_with fail
    go_ret
    exact (hfin _).out
  have e5 : (kd == 5) = false := by rw [beq_eq_false_iff_ne]; exact h5
  by_cases h6 : kd = 6
  · subst h6
    obtain ⟨g1, g2⟩ := H.out.size2
    have GA := Lib.hid g1
    have GB := Lib.hid g2
    clear g1 g2
    go_enter Try.func29, Try.ntmps29
    go_upto_region 1 with fail
    have hbx : (w.alloc (.cells #[.pointer (some ⟨G, 0, none⟩), .pointer (some ⟨R, 0, none⟩)] 48)).alloc (.cells #[.int .i64 6, .int .i64 of_, .int .i64 a, .int .i64 b] 29) = w0 := HW0.out
    rw [hbx, ← HN.out]
    clear hbx
    go_wp2_with fail
    go_quiet ((first | (go_at_call 26; with_reducible exact quiet_left (GA.out _)) | (go_at_call 43; with_reducible exact quiet_left (GB.out _))))
    go_wp2_with fail
    go_ret
    exact (hfin _).out
  have e6 : (kd == 6) = false := by rw [beq_eq_false_iff_ne]; exact h6
  by_cases h7 : kd = 7
  · subst h7
    obtain ⟨g1, g2⟩ := H.out.epochs2 hk
    have GA := Lib.hid g1
    have GB := Lib.hid g2
    clear g1 g2
    go_enter Try.func29, Try.ntmps29
    go_upto_region 1 with fail
    have hbx : (w.alloc (.cells #[.pointer (some ⟨G, 0, none⟩), .pointer (some ⟨R, 0, none⟩)] 48)).alloc (.cells #[.int .i64 7, .int .i64 of_, .int .i64 a, .int .i64 b] 29) = w0 := HW0.out
    rw [hbx, ← HN.out]
    clear hbx
    go_wp2_with fail
    go_quiet ((first | (go_at_call 17; with_reducible exact quiet_left2 (GA.out _)) | (go_at_call 44; with_reducible exact quiet_left (GB.out _))))
    go_wp2_with fail
    go_ret
    exact (hfin _).out
  have e7 : (kd == 7) = false := by rw [beq_eq_false_iff_ne]; exact h7
  by_cases h9 : kd = 9
  · subst h9
    obtain ⟨g1, g2⟩ := H.out.settled2 a
    have GA := Lib.hid g1
    have GB := Lib.hid g2
    obtain ⟨sv, hsv⟩ : ∃ b, b = setN s a := ⟨_, rfl⟩
    rw [← hsv] at GA GB
    clear g1 g2 hsv
    go_enter Try.func29, Try.ntmps29
    go_upto_region 1 with fail
    have hbx : (w.alloc (.cells #[.pointer (some ⟨G, 0, none⟩), .pointer (some ⟨R, 0, none⟩)] 48)).alloc (.cells #[.int .i64 9, .int .i64 of_, .int .i64 a, .int .i64 b] 29) = w0 := HW0.out
    rw [hbx, ← HN.out]
    clear hbx
    go_wp2_with fail
    go_quiet ((first | (go_at_call 20; with_reducible exact quiet_left (GA.out _)) | (go_at_call 46; with_reducible exact quiet_left (GB.out _))))
    go_wp2_with fail
    go_ret
    cases sv <;> exact (hfin _).out
  have e9 : (kd == 9) = false := by rw [beq_eq_false_iff_ne]; exact h9
  clear h5 h6 h7 h9
  have hf0 := hfin 0
  clear hfin
  go_enter Try.func29, Try.ntmps29
  go_upto_region 1 with fail
  have hbx : (w.alloc (.cells #[.pointer (some ⟨G, 0, none⟩), .pointer (some ⟨R, 0, none⟩)] 48)).alloc (.cells #[.int .i64 kd, .int .i64 of_, .int .i64 a, .int .i64 b] 29) = w0 := HW0.out
  rw [hbx, ← HN.out]
  clear hbx
  go_wp2_with fail
  go_ret
  exact hf0.out
/-- what Keep does with a list of its own, whoever it came of -/
theorem PS.kept {w3 w4 : World} {A : Option Addr} {n : Nat} {l : List Ent3} (h : PS Q w3 G R B k s r F FR FB fn kn mk) (c1 : ∀ j i, cellsP ⟨A, n, n, l⟩ j i → ¬ F j i) (c2 : ∀ j i, cellsP ⟨A, n, n, l⟩ j i → ¬ FR j) (c3 : ∀ j i, cellsP ⟨A, n, n, l⟩ j i → Q j i)
    {fn' kn' : Nat} {mk' : Int} {FB' : Nat → Nat → Prop} (bk4 : BkAt w4 B fn' kn' mk' FB') (g1 : fn' ≤ 1) (g2 : kn' ≤ kn + 4) (g3 : mk ≤ mk') (g4 : mk' ≤ mk + 2) (c4 : Chg (fun j i => FB j i ∨ cellsP ⟨A, n, n, l⟩ j i) w3 w4)
    (f4 : ∀ j i, FB' j i → FB j i ∨ cellsP ⟨A, n, n, l⟩ j i ∨ w3.heap.size ≤ j) : PS Q w4 G R B (k + 1) s r F FR FB' fn' kn' mk' ∧ Chg Q w3 w4 :=
  ⟨h.keptB (h.ms.bookT bk4 c4 f4 c1 c2 c3) g1 g2 g3 g4, c4.mono fun j i hj hf => hf.elim (h.ms.fB j i) (c3 j i)⟩
set_option maxRecDepth 20000 in
set_option maxHeartbeats 16000000 in
theorem asks_un (of_ a b : Int) (h : PS Q w G R B k s r F FR FB fn kn mk) (hk : k ≤ 8388608) :
    Calls Try.prog 29 #[.agg #[.pointer (some ⟨G, 0, none⟩), .pointer (some ⟨R, 0, none⟩)], .agg #[.int .i64 8, .int .i64 of_, .int .i64 a, .int .i64 b], .pointer (some ⟨B, 0, none⟩)] w (MvP Q w G R B (k + 1)) := by
  obtain ⟨X0, B0⟩ := boxes_bx w G R 8 of_ a b
  obtain ⟨w0, hw0⟩ : ∃ W, W = boxes w G R 8 of_ a b := ⟨_, rfl⟩
  rw [← hw0] at X0 B0
  have H := Lib.hid (h.ms' (h.ms.below B0))
  have hBase : Chg Q w w0 := Chg.of_below Q B0
  obtain ⟨p0, p1, o0, o2, o3⟩ := X0.cells
  have HX := Lib.hid X0
  have HBA := Lib.hid hBase
  have HW0 := Lib.hid hw0.symm
  obtain ⟨n, hn⟩ : ∃ n, n = w.heap.size := ⟨_, rfl⟩
  have HN := Lib.hid hn
  rw [← hn] at HX p0 p1 o0 o2 o3
  have HNL := Lib.hid (show n + 1 < w0.heap.size from HX.out.o.lt)
  clear h X0 B0 hBase hw0 hn
  have hfn := H.out.fn1
  have hkn := H.out.kn1
  have hm0 := H.out.mk0
  have hm1 := H.out.mk1
  have hlim := H.out.lim.2.1
  have hlen := H.out.len
  have UN := Lib.hid (fun W (hW : LogAt W G s F) => unacked_full hW H.out.sim.tord (by omega))
  have hul : (unA s.ws).length ≤ s.ws.length := (unA_sub s.ws).length_le
  obtain ⟨N, hN⟩ : ∃ N, N = (unA s.ws).length := ⟨_, rfl⟩
  have hNb : N ≤ 1024 := by omega
  obtain ⟨L, hL⟩ : ∃ L, L = (unA s.ws).map entW := ⟨_, rfl⟩
  have HLL := Lib.hid (show L.length = N by rw [hL, List.length_map, hN])
  have RU := Lib.hid (fun W (hW : RefAt W R r FR) => runacked_any hW H.out.rlen)
  have HUQ := Lib.hid (show ∀ W e W', UnQ W s e W' → ∃ A, e = .returned (.slice A N N) ∧ okP W' ⟨A, N, N, L⟩ ∧ Below W.heap.size W W' ∧ ∀ j i, cellsP ⟨A, N, N, L⟩ j i → W.heap.size ≤ j from by
    rintro W e W' ⟨A, h1, h2, h3, h4⟩
    rw [← hN, ← hL] at h2
    rw [← hN] at h1 h4
    exact ⟨A, h1, ⟨h2, HLL.out⟩, h3, h4⟩)
  have HRU := Lib.hid (show rUnO r = L by rw [hL]; exact H.out.sim.unacked)
  clear hL hN hul hlen
  go_enter Try.func29, Try.ntmps29
  go_upto_region 1 with fail
  have hbx : (w.alloc (.cells #[.pointer (some ⟨G, 0, none⟩), .pointer (some ⟨R, 0, none⟩)] 48)).alloc (.cells #[.int .i64 8, .int .i64 of_, .int .i64 a, .int .i64 b] 29) = w0 := HW0.out
  rw [hbx, ← HN.out]
  clear hbx
  go_wp2_with fail
  refine (UN.out _ H.out.ms.log).mono ?_
  intro e1 w1 hu1
  obtain ⟨A, rfl, OK1, B1, F1⟩ := HUQ.out _ _ _ hu1
  have P1 := Lib.hid (H.out.ms' (H.out.ms.below B1))
  have X1 := HX.out.chg (Chg.of_below (fun _ _ => False) B1) fun _ _ h => h.elim
  have HX1 := Lib.hid X1
  obtain ⟨q0, q1, t0, t2, t3⟩ := X1.cells
  have HO1 := Lib.hid OK1
  have HF1 := Lib.hid F1
  have HB1 := Lib.hid B1
  clear hu1 OK1 B1 F1 X1 p0 p1 o0 o2 o3
  go_wp2_with fail
  refine (UN.out _ P1.out.ms.log).mono ?_
  intro e2 w2 hu2
  obtain ⟨A', rfl, OK2, B2, F2⟩ := HUQ.out _ _ _ hu2
  have P2 := Lib.hid (P1.out.ms' (P1.out.ms.below B2))
  have X2 := HX1.out.chg (Chg.of_below (fun _ _ => False) B2) fun _ _ h => h.elim
  have HX2 := Lib.hid X2
  obtain ⟨p0, p1, o0, o2, o3⟩ := X2.cells
  have HO2 := Lib.hid OK2
  have HO1' := Lib.hid (HO1.out.chg (Chg.of_below (fun _ _ => False) B2) fun _ _ _ h => h)
  have HF2 := Lib.hid F2
  have HB2 := Lib.hid B2
  clear hu2 OK2 B2 F2 X2 q0 q1 t0 t2 t3 UN
  have r1 := RU.out _ P2.out.ms.ref
  rw [HRU.out, HLL.out] at r1
  have R1 := Lib.hid r1
  clear r1
  go_wp2_with (first | (go_at_call 45; (with_reducible refine R1.out.mono ?_); rintro e3 w3 ⟨Ag, gc, rfl, hrd3, B3⟩))
  have P3 := Lib.hid (P2.out.ms' (P2.out.ms.below B3))
  have OA3 := Lib.hid (HO1'.out.chg (Chg.of_below (fun _ _ => False) B3) fun _ _ _ h => h)
  have OB3 := Lib.hid (HO2.out.chg (Chg.of_below (fun _ _ => False) B3) fun _ _ _ h => h)
  have HB3 := Lib.hid B3
  have SE := sameEntries_any (cA := N) (cB := gc) OA3.out.1.rds hrd3 (by rw [HLL.out]; omega) (by rw [HLL.out]; omega)
  rw [HLL.out, decide_eq_true (rfl : L = L)] at SE
  have HSE := Lib.hid SE
  have X3 := HX2.out.chg (Chg.of_below (fun _ _ => False) B3) fun _ _ h => h.elim
  have HX3 := Lib.hid X3
  clear SE hrd3 R1 B3 X3 p0 p1 o0 o2 o3
  go_wp2_with fail
  refine HSE.out.mono ?_
  rintro e4 w4 ⟨rfl, B4⟩
  have P4 := Lib.hid (P3.out.ms' (P3.out.ms.below B4))
  have OA4 := Lib.hid (OA3.out.chg (Chg.of_below (fun _ _ => False) B4) fun _ _ _ h => h)
  have OB4 := Lib.hid (OB3.out.chg (Chg.of_below (fun _ _ => False) B4) fun _ _ _ h => h)
  have HB4 := Lib.hid B4
  have X4 := HX3.out.chg (Chg.of_below (fun _ _ => False) B4) fun _ _ h => h.elim
  have HX4 := Lib.hid X4
  obtain ⟨p0, p1, o0, o2, o3⟩ := X4.cells
  have r2 := RU.out _ P4.out.ms.ref
  rw [HRU.out, HLL.out] at r2
  have R2 := Lib.hid r2
  clear r2 B4 X4 HSE
  go_wp2_with (first | (go_at_call 45; (with_reducible refine R2.out.mono ?_); rintro e5 w5 ⟨Ah, hc, rfl, hrd5, B5⟩))
  have P5 := Lib.hid (P4.out.ms' (P4.out.ms.below B5))
  have OA5 := Lib.hid (OA4.out.chg (Chg.of_below (fun _ _ => False) B5) fun _ _ _ h => h)
  have OB5 := Lib.hid (OB4.out.chg (Chg.of_below (fun _ _ => False) B5) fun _ _ _ h => h)
  have HB5 := Lib.hid B5
  have SE := sameEntries_any (cA := N) (cB := hc) OB5.out.1.rds hrd5 (by rw [HLL.out]; omega) (by rw [HLL.out]; omega)
  rw [HLL.out, decide_eq_true (rfl : L = L)] at SE
  have HSE := Lib.hid SE
  clear SE hrd5 R2 B5 RU p0 p1 o0 o2 o3
  go_wp2_with fail
  refine HSE.out.mono ?_
  rintro e6 w6 ⟨rfl, B6⟩
  have P6 := Lib.hid (P5.out.ms' (P5.out.ms.below B6))
  have OA6 := Lib.hid (OA5.out.chg (Chg.of_below (fun _ _ => False) B6) fun _ _ _ h => h)
  have OB6 := Lib.hid (OB5.out.chg (Chg.of_below (fun _ _ => False) B6) fun _ _ _ h => h)
  have BW := Lib.hid (show Below w0.heap.size w0 w6 from ((((HB1.out.trans (HB2.out.mono HB1.out.size)).trans (HB3.out.mono (Nat.le_trans HB1.out.size HB2.out.size))).trans (HB4.out.mono (Nat.le_trans (Nat.le_trans HB1.out.size HB2.out.size) HB3.out.size))).trans (HB5.out.mono (Nat.le_trans (Nat.le_trans (Nat.le_trans HB1.out.size HB2.out.size) HB3.out.size) HB4.out.size))).trans (B6.mono (Nat.le_trans (Nat.le_trans (Nat.le_trans (Nat.le_trans HB1.out.size HB2.out.size) HB3.out.size) HB4.out.size) HB5.out.size)))
  have hw2 : w2.heap.size ≤ w6.heap.size := Nat.le_trans (Nat.le_trans (Nat.le_trans HB3.out.size HB4.out.size) HB5.out.size) B6.size
  have HW2 := Lib.hid hw2
  have HX6 := Lib.hid (HX.out.chg (Chg.of_below (fun _ _ => False) BW.out) fun _ _ h => h.elim)
  clear HSE B6 hw2
  have cA : ∀ j i, cellsP ⟨A, N, N, L⟩ j i → w0.heap.size ≤ j ∧ j < w1.heap.size := fun j i hj => ⟨HF1.out j i hj, by obtain ⟨cs, hb⟩ := HO1.out.cells hj; exact hb.lt⟩
  have cB : ∀ j i, cellsP ⟨A', N, N, L⟩ j i → w1.heap.size ≤ j ∧ j < w2.heap.size := fun j i hj => ⟨HF2.out j i hj, by obtain ⟨cs, hb⟩ := HO2.out.cells hj; exact hb.lt⟩
  have CA := Lib.hid cA
  have CB := Lib.hid cB
  have fl : ∀ j i, F j i → j < w0.heap.size := fun j i hj => H.out.ms.log.fp_lt hj
  have rl : ∀ j, FR j → j < w0.heap.size := fun j hj => H.out.ms.ref.lt hj
  have bl : ∀ j i, FB j i → j < w0.heap.size := fun j i hj => H.out.ms.bk.lt hj
  have FL := Lib.hid fl
  have RL := Lib.hid rl
  have BL := Lib.hid bl
  have K1 := Lib.hid (keep_any B fn kn N mk FB A L w6 P6.out.ms.bk hfn OA6.out (by omega) (by omega) ⟨by omega, by omega⟩ fun j i hj hb => by have := CA.out j i hj; have := BL.out j i hb; omega)
  have hb1 := HB1.out.size
  clear cA cB fl rl bl
  go_wp2_with fail
  refine K1.out.mono ?_
  rintro e7 w7 ⟨rfl, fn', kn', mk', FB', bk7, g1, g2, g3, g4, c7, f7⟩
  obtain ⟨p7, c7q⟩ := P6.out.kept (fun j i hj hf => by have := CA.out j i hj; have := FL.out j i hf; omega) (fun j i hj hf => by have := CA.out j i hj; have := RL.out j hf; omega) (fun j i hj => H.out.ms.bs j (CA.out j i hj).1 i) bk7 g1 g2 g3 g4 c7 f7
  have P7 := Lib.hid p7
  have C7 := Lib.hid c7q
  have OB7 := Lib.hid (OB6.out.chg c7 fun j i hj hf => hf.elim (fun e => by have := CB.out j i hj; have := BL.out j i e; omega) fun e => by have := CB.out j i hj; have := CA.out j i e; omega)
  have F7 := Lib.hid f7
  have K2 := Lib.hid (keep_any B fn' kn' N mk' FB' A' L w7 bk7 g1 OB7.out (by omega) (by omega) ⟨by omega, by omega⟩ fun j i hj hb => by
    have h1 := CB.out j i hj
    rcases F7.out j i hb with e | e | e
    · have := BL.out j i e; omega
    · have := CA.out j i e; omega
    · have := HW2.out; omega)
  clear p7 c7q c7 f7 bk7 K1
  go_wp2_with fail
  refine K2.out.mono ?_
  rintro e8 w8 ⟨rfl, fn2, kn2, mk2, FB2, bk8, j1, j2, j3, j4, c8, f8⟩
  obtain ⟨p8, c8q⟩ := P7.out.kept (fun j i hj hf => by have := CB.out j i hj; have := FL.out j i hf; omega) (fun j i hj hf => by have := CB.out j i hj; have := RL.out j hf; omega) (fun j i hj => H.out.ms.bs j (by have := (CB.out j i hj).1; omega) i) bk8 j1 j2 j3 j4 c8 f8
  have hfin := Lib.hid (show MvP Q w G R B (k + 1) (.returned (.bool true)) w8 from ⟨rfl, ((HBA.out.trans (Chg.of_below Q BW.out) fun _ _ _ h => h).trans C7.out fun _ _ _ h => h).trans c8q fun _ _ _ h => h, _, _, _, _, _, _, _, _, p8⟩)
  clear p8 c8q bk8 c8 f8 K2
  go_wp2_with fail
  go_ret
  exact hfin.out
theorem asks_any (kd of_ a b : Int) (h : PS Q w G R B k s r F FR FB fn kn mk) (hk : k ≤ 8388608) :
    Calls Try.prog 29 #[.agg #[.pointer (some ⟨G, 0, none⟩), .pointer (some ⟨R, 0, none⟩)], .agg #[.int .i64 kd, .int .i64 of_, .int .i64 a, .int .i64 b], .pointer (some ⟨B, 0, none⟩)] w (MvP Q w G R B (k + 1)) := by
  by_cases h8 : kd = 8
  · subst h8; exact asks_un of_ a b h hk
  · exact asks_calm kd of_ a b h hk h8
end
end Go.Proofs.Ytagkhhoimgighaa
