/- Package replicalaw10: moves: Close, Ack, by contract. -/
import Derived.Test.YtagkhhoimgighaaTlMa
namespace Go.Proofs.Ytagkhhoimgighaa
open Go.RowKit
set_option linter.unusedVariables false
set_option linter.unusedSimpArgs false
section
variable {Q : Nat → Nat → Prop} {w w' : World} {G R B k : Nat} {s : LogS} {r : RefT} {F : Nat → Nat → Prop} {FR : Nat → Prop} {FB : Nat → Nat → Prop} {fn kn : Nat} {mk : Int}
set_option maxRecDepth 20000 in
set_option maxHeartbeats 16000000 in
theorem moves_close (tl : Bool) (of_ a b : Int) (h : PS Q w G R B k s r F FR FB fn kn mk) (hk : k ≤ 8388608) :
    Calls Try.prog 22 #[.agg #[.pointer (some ⟨G, 0, none⟩), .pointer (some ⟨R, 0, none⟩)], .agg #[.int .i64 1, .int .i64 of_, .int .i64 a, .int .i64 b], .bool tl, .pointer (some ⟨B, 0, none⟩)] w (MvP Q w G R B k) := by
  obtain ⟨X0, B0⟩ := boxes_bx w G R 1 of_ a b
  obtain ⟨w0, hw0⟩ : ∃ W, W = boxes w G R 1 of_ a b := ⟨_, rfl⟩
  rw [← hw0] at X0 B0
  have H := Lib.hid (h.ms' (h.ms.below B0))
  have hFlt : ∀ k i, F k i → k < w.heap.size := fun k i hk => h.ms.log.fp_lt hk
  have hBase : Chg Q w w0 := Chg.of_below Q B0
  obtain ⟨p0, p1, o0, o2, o3⟩ := X0.cells
  have HX := Lib.hid X0
  have HFL := Lib.hid hFlt
  have HBA := Lib.hid hBase
  have HW0 := Lib.hid hw0.symm
  obtain ⟨n, hn⟩ : ∃ n, n = w.heap.size := ⟨_, rfl⟩
  have HN := Lib.hid hn
  rw [← hn] at HX HFL p0 p1 o0 o2 o3
  have ht := h.turn
  have hop := h.opn
  have hone := h.sim.one
  have hrl := h.rlen
  clear h X0 B0 hFlt hBase hw0 hn
  have A1 := Lib.hid (close_any H.out.ms.log (by omega))
  go_enter Try.func22, Try.ntmps22
  go_upto_region 1 with fail
  have hbx : (w.alloc (.cells #[.pointer (some ⟨G, 0, none⟩), .pointer (some ⟨R, 0, none⟩)] 48)).alloc (.cells #[.int .i64 1, .int .i64 of_, .int .i64 a, .int .i64 b] 29) = w0 := HW0.out
  rw [hbx, ← HN.out]
  clear hbx
  go_wp2_with fail
  refine A1.out.mono ?_
  rintro e1 w1 ⟨rfl, L1, c1⟩
  have X1 := HX.out.chg c1 HFL.out
  obtain ⟨q0, q1, t0, t2, t3⟩ := X1.cells
  have M1 := Lib.hid (H.out.ms.logT L1 c1 fun k i hk => .inl hk)
  have C1 := Lib.hid c1
  have hnow := H.out.sim.now
  have A2 := rclose_any M1.out.ref hrl (by omega)
  have hfil := H.out.sim.fil
  have hdd : decide (ofR r.lines r.now ≠ 0) = decide (s.filled ≠ 0) := by
    rw [hfil]
    refine decide_eq_decide.2 ⟨fun h1 h2 => h1 (by omega), fun h1 h2 => h1 (by omega)⟩
  rw [hdd, ← hfil, hnow] at A2
  obtain ⟨d, hd⟩ : ∃ d, d = decide (s.filled ≠ 0) := ⟨_, rfl⟩
  rw [← hd] at A2 ⊢
  have HA2 := Lib.hid A2
  clear X1 L1 c1 A2 p0 p1 o0 o2 o3 hfil hdd hd hnow
  go_wp2_with fail
  refine HA2.out.mono ?_
  rintro e2 w2 ⟨rfl, R2, c2⟩
  have M2 := Lib.hid (M1.out.refT R2 c2 fun k hk => .inl hk)
  have C2 := Lib.hid c2
  have hfin := Lib.hid (show MvP Q w G R B k (.returned (.bool true)) w2 from by
    refine ⟨rfl, ?_, _, _, _, _, _, _, _, _, H.out.closed M2.out⟩
    have k1 := C1.out.mono (F' := Q) fun k i hk hf => H.out.ms.fF k i hf
    have k2 := C2.out.mono (F' := Q) fun k i hk hf => M1.out.fR k hf i
    exact (HBA.out.trans k1 fun _ _ _ h => h).trans k2 fun _ _ _ h => h)
  clear R2 c2 HA2 A1 q0 q1 t0 t2 t3
  cases d <;>
  · go_wp2_with fail
    go_ret
    exact hfin.out
set_option maxRecDepth 20000 in
set_option maxHeartbeats 16000000 in
theorem moves_ack (tl : Bool) (of_ a b : Int) (h : PS Q w G R B k s r F FR FB fn kn mk) (hk : k ≤ 8388608) (hwa : (Lit.int .i64 a).wf = true) :
    Calls Try.prog 22 #[.agg #[.pointer (some ⟨G, 0, none⟩), .pointer (some ⟨R, 0, none⟩)], .agg #[.int .i64 2, .int .i64 of_, .int .i64 a, .int .i64 b], .bool tl, .pointer (some ⟨B, 0, none⟩)] w (MvP Q w G R B k) := by
  obtain ⟨X0, B0⟩ := boxes_bx w G R 2 of_ a b
  obtain ⟨w0, hw0⟩ : ∃ W, W = boxes w G R 2 of_ a b := ⟨_, rfl⟩
  rw [← hw0] at X0 B0
  have H := Lib.hid (h.ms' (h.ms.below B0))
  have hFlt : ∀ k i, F k i → k < w.heap.size := fun k i hk => h.ms.log.fp_lt hk
  have hBase : Chg Q w w0 := Chg.of_below Q B0
  obtain ⟨p0, p1, o0, o2, o3⟩ := X0.cells
  have HX := Lib.hid X0
  have HFL := Lib.hid hFlt
  have HBA := Lib.hid hBase
  have HW0 := Lib.hid hw0.symm
  obtain ⟨n, hn⟩ : ∃ n, n = w.heap.size := ⟨_, rfl⟩
  have HN := Lib.hid hn
  rw [← hn] at HX HFL p0 p1 o0 o2 o3
  have ht := h.turn
  have hop := h.opn
  have hone := h.sim.one
  have hrl := h.rlen
  clear h X0 B0 hFlt hBase hw0 hn
  have A1 := Lib.hid (ack_any a H.out.ms.log hwa)
  obtain ⟨x, hx⟩ : ∃ x, x = (ackE s a).1 := ⟨_, rfl⟩
  obtain ⟨y, hy⟩ : ∃ x, x = (ackE s a).2.1 := ⟨_, rfl⟩
  obtain ⟨z, hz⟩ : ∃ x, x = (ackE s a).2.2 := ⟨_, rfl⟩
  obtain ⟨q, hq⟩ : ∃ q, q = ackR s a := ⟨_, rfl⟩
  rw [← hx, ← hy, ← hz, ← hq] at A1
  have HE := Lib.hid (show rAckR r a = q ∧ (rAckE r a).1 = x ∧ (rAckE r a).2.1 = y ∧ (rAckE r a).2.2 = z from by
    obtain ⟨e1, e2⟩ := H.out.sim.ack_eq a
    rw [e1, e2]
    exact ⟨hq.symm, hx.symm, hy.symm, hz.symm⟩)
  clear hx hy hz hq
  go_enter Try.func22, Try.ntmps22
  go_upto_region 1 with fail
  have hbx : (w.alloc (.cells #[.pointer (some ⟨G, 0, none⟩), .pointer (some ⟨R, 0, none⟩)] 48)).alloc (.cells #[.int .i64 2, .int .i64 of_, .int .i64 a, .int .i64 b] 29) = w0 := HW0.out
  rw [hbx, ← HN.out]
  clear hbx
  go_wp2_with fail
  refine A1.out.mono ?_
  rintro e1 w1 ⟨rfl, L1, c1⟩
  have X1 := HX.out.chg c1 HFL.out
  have M1 := Lib.hid (H.out.ms.logT L1 c1 fun k i hk => .inl hk)
  have C1 := Lib.hid c1
  have HX1 := Lib.hid X1
  clear X1 L1 c1 p0 p1 o0 o2 o3
  go_upto_region 13 with fail
  obtain ⟨v1, hv1⟩ : ∃ v, v = w1.alloc (.cells #[.int .i64 x, .int .i64 y, .int .i64 z] 36) := ⟨_, rfl⟩
  rw [← hv1]
  have b1 : Below w1.heap.size w1 v1 := by rw [hv1]; exact (Below.refl _ w1).alloc (Nat.le_refl _) _
  have E1 : Blk v1 w1.heap.size 36 #[.int .i64 x, .int .i64 y, .int .i64 z] := by rw [hv1]; exact Blk.new w1 _ _
  obtain ⟨q0, q1, t0, t2, t3⟩ := (HX1.out.chg (Chg.of_below (fun _ _ => False) b1) fun _ _ h => h.elim).cells
  have M1v := Lib.hid (M1.out.below b1)
  have A2 := rack_any a M1v.out.ref hrl
  rw [HE.out.1, HE.out.2.1, HE.out.2.2.1, HE.out.2.2.2] at A2
  have HA2 := Lib.hid A2
  have HB1 := Lib.hid b1
  have HE1 := Lib.hid E1
  obtain ⟨u, hu⟩ : ∃ u, u = w1.heap.size := ⟨_, rfl⟩
  have HU := Lib.hid hu
  rw [← hu] at HE1 ⊢
  clear A2 hv1 b1 E1 hu A1
  go_wp2_with fail
  refine HA2.out.mono ?_
  rintro e2 w2 ⟨rfl, R2, c2⟩
  have M2 := Lib.hid (M1v.out.refT R2 c2 fun k hk => .inl hk)
  have C2 := Lib.hid c2
  have E2 : Blk w2 u 36 #[.int .i64 x, .int .i64 y, .int .i64 z] := c2.blk HE1.out fun i hf => by have := M1.out.ref.lt hf; have := HU.out; omega
  have HE2 := Lib.hid E2
  clear R2 c2 E2 HA2 q0 q1 t0 t2 t3
  go_upto_region 14 with fail
  obtain ⟨v2, hv2⟩ : ∃ v, v = w2.alloc (.cells #[.int .i64 x, .int .i64 y, .int .i64 z] 36) := ⟨_, rfl⟩
  rw [← hv2]
  have b2 : Below w2.heap.size w2 v2 := by rw [hv2]; exact (Below.refl _ w2).alloc (Nat.le_refl _) _
  have E2 : Blk v2 w2.heap.size 36 #[.int .i64 x, .int .i64 y, .int .i64 z] := by rw [hv2]; exact Blk.new w2 _ _
  have E3 : Blk v2 u 36 #[.int .i64 x, .int .i64 y, .int .i64 z] := HE2.out.below b2 HE2.out.lt
  obtain ⟨u2, hu2⟩ : ∃ u, u = w2.heap.size := ⟨_, rfl⟩
  rw [← hu2] at E2 ⊢
  have d0 : v2.cell? ⟨u, 0, none⟩ = some (.int .i64 x) := E3.cell 0
  have d1 : v2.cell? ⟨u, 1, none⟩ = some (.int .i64 y) := E3.cell 1
  have d2 : v2.cell? ⟨u, 2, none⟩ = some (.int .i64 z) := E3.cell 2
  have g0 : v2.cell? ⟨u2, 0, none⟩ = some (.int .i64 x) := E2.cell 0
  have g1 : v2.cell? ⟨u2, 1, none⟩ = some (.int .i64 y) := E2.cell 1
  have g2 : v2.cell? ⟨u2, 2, none⟩ = some (.int .i64 z) := E2.cell 2
  have SE := Lib.hid (sameEntry_val x y z x y z true v2 (decide_eq_true ⟨rfl, rfl, rfl⟩))
  have hfin := Lib.hid (fun w5 (k5 : Below v2.heap.size v2 w5) => (by
    have hb : Below w2.heap.size w2 w5 := b2.trans (k5.mono b2.size)
    refine ⟨rfl, ?_, _, _, _, _, _, _, _, _, H.out.ackd a (M2.out.below hb)⟩
    have k1 := C1.out.mono (F' := Q) fun k i hk hf => H.out.ms.fF k i hf
    have k2 := C2.out.mono (F' := Q) fun k i hk hf => M1v.out.fR k hf i
    exact (((HBA.out.trans k1 fun _ _ _ h => h).trans (Chg.of_below Q HB1.out) fun _ _ _ h => h).trans k2 fun _ _ _ h => h).trans (Chg.of_below Q hb) fun _ _ _ h => h : MvP Q w G R B k (.returned (.bool true)) w5))
  clear hv2 b2 E2 E3 hu2
  go_wp2_with (first
    | (go_at_call 27; refine SE.out.mono ?_; rintro e5 w5 ⟨rfl, k5⟩)
    | (go_at_call 14; refine (num_any _ _).mono ?_; rintro e8 w8 ⟨rfl, rfl⟩))
  go_ret
  exact hfin.out w5 k5
end
end Go.Proofs.Ytagkhhoimgighaa
