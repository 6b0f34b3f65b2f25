/- Package replicalaw10: moves: Add, Close, Ack, by contract. -/
import Derived.Test.YtagkhhoimgighaaTlMs
namespace Go.Proofs.Ytagkhhoimgighaa
open Go.RowKit
set_option linter.unusedVariables false
set_option linter.unusedSimpArgs false
/-- what moves does -/
def MvP (Q : Nat → Nat → Prop) (w : World) (G R B k : Nat) : Ending → World → Prop := fun e w' => e = .returned (.bool true) ∧ Chg Q w w' ∧ ∃ (s' : LogS) (r' : RefT) (F' : Nat → Nat → Prop) (FR' : Nat → Prop) (FB' : Nat → Nat → Prop) (fn' kn' : Nat) (mk' : Int), PS Q w' G R B (k + 1) s' r' F' FR' FB' fn' kn' mk'
def boxes (w : World) (G R : Nat) (kd of_ a b : Int) : World := (w.alloc (.cells #[.pointer (some ⟨G, 0, none⟩), .pointer (some ⟨R, 0, none⟩)] 48)).alloc (.cells #[.int .i64 kd, .int .i64 of_, .int .i64 a, .int .i64 b] 29)
structure Bx (w : World) (G R : Nat) (kd of_ a b : Int) (n : Nat) : Prop where
  p : Blk w n 48 #[.pointer (some ⟨G, 0, none⟩), .pointer (some ⟨R, 0, none⟩)]
  o : Blk w (n + 1) 29 #[.int .i64 kd, .int .i64 of_, .int .i64 a, .int .i64 b]
theorem boxes_bx (w : World) (G R : Nat) (kd of_ a b : Int) : Bx (boxes w G R kd of_ a b) G R kd of_ a b w.heap.size ∧ Below w.heap.size w (boxes w G R kd of_ a b) := by
  refine ⟨⟨(Blk.new w _ _).alloc _, ?_⟩, ((Below.refl _ w).alloc (Nat.le_refl _) _).alloc (by simp) _⟩
  have := Blk.new (w.alloc (.cells #[.pointer (some ⟨G, 0, none⟩), .pointer (some ⟨R, 0, none⟩)] 48)) 29 #[.int .i64 kd, .int .i64 of_, .int .i64 a, .int .i64 b]
  rw [World.size_alloc] at this
  exact this
theorem Bx.chg {w w' : World} {G R n : Nat} {kd of_ a b : Int} {X : Nat → Nat → Prop} (h : Bx w G R kd of_ a b n) (hc : Chg X w w') (hn : ∀ k i, X k i → k < n) : Bx w' G R kd of_ a b n :=
  ⟨hc.blk h.p fun i hx => by have := hn _ _ hx; omega, hc.blk h.o fun i hx => by have := hn _ _ hx; omega⟩
theorem Bx.cells {w : World} {G R n : Nat} {kd of_ a b : Int} (h : Bx w G R kd of_ a b n) : w.cell? ⟨n, 0, none⟩ = some (.pointer (some ⟨G, 0, none⟩)) ∧ w.cell? ⟨n, 1, none⟩ = some (.pointer (some ⟨R, 0, none⟩)) ∧ w.cell? ⟨n + 1, 0, none⟩ = some (.int .i64 kd) ∧ w.cell? ⟨n + 1, 2, none⟩ = some (.int .i64 a) ∧ w.cell? ⟨n + 1, 3, none⟩ = some (.int .i64 b) :=
  ⟨h.p.cell 0, h.p.cell 1, h.o.cell 0, h.o.cell 2, h.o.cell 3⟩
section
variable {Q : Nat → Nat → Prop} {w w' : World} {G R B k : Nat} {s : LogS} {r : RefT} {F : Nat → Nat → Prop} {FR : Nat → Prop} {FB : Nat → Nat → Prop} {fn kn : Nat} {mk : Int}
theorem PS.ms' (h : PS Q w G R B k s r F FR FB fn kn mk) (m : MS Q w' G R B s r F FR FB fn kn mk) : PS Q w' G R B k s r F FR FB fn kn mk := { h with ms := m }
set_option maxRecDepth 20000 in
set_option maxHeartbeats 16000000 in
theorem moves_add (tl : Bool) (of_ a b : Int) (h : PS Q w G R B k s r F FR FB fn kn mk) (hk : k ≤ 8388608) (hwa : (Lit.int .i64 a).wf = true) :
    Calls Try.prog 22 #[.agg #[.pointer (some ⟨G, 0, none⟩), .pointer (some ⟨R, 0, none⟩)], .agg #[.int .i64 0, .int .i64 of_, .int .i64 a, .int .i64 b], .bool tl, .pointer (some ⟨B, 0, none⟩)] w (MvP Q w G R B k) := by
  obtain ⟨X0, B0⟩ := boxes_bx w G R 0 of_ a b
  obtain ⟨w0, hw0⟩ : ∃ W, W = boxes w G R 0 of_ a b := ⟨_, rfl⟩
  rw [← hw0] at X0 B0
  have H := Lib.hid (h.ms' (h.ms.below B0))
  have hFlt : ∀ k i, F k i → k < w.heap.size := fun k i hk => h.ms.log.fp_lt hk
  have hBase : Chg Q w w0 := Chg.of_below Q B0
  obtain ⟨p0, p1, o0, o2, o3⟩ := X0.cells
  have HX := Lib.hid X0
  have HFL := Lib.hid hFlt
  have HBA := Lib.hid hBase
  have HW0 := Lib.hid hw0.symm
  obtain ⟨n, hn⟩ : ∃ n, n = w.heap.size := ⟨_, rfl⟩
  have HN := Lib.hid hn
  rw [← hn] at HX HFL p0 p1 o0 o2 o3
  have ht := h.turn
  have hl := h.lim
  have hlen := h.len
  have hf0 := h.sim.fil0
  have hrl := h.rlen
  have hrlen := h.sim.len
  clear h X0 B0 hFlt hBase hw0 hn
  by_cases ha : addR s a b = 0
  · have A1 := Lib.hid (add_yes a b H.out.ms.log hwa ha (by omega) hl.2.1 hl.2.2.2 hf0)
    obtain ⟨d, hd⟩ : ∃ d, d = decide (s.filled + 1 = s.width) := ⟨_, rfl⟩
    rw [← hd] at A1
    have HD := Lib.hid hd
    have HA := Lib.hid ha
    have hlt : (s.ws.length : Int) < s.limit := by
      have ha' := ha
      unfold addR at ha'
      by_cases hc : s.limit ≤ s.ws.length ∨ s.width ≤ s.filled
      · rw [if_pos hc] at ha'
        split at ha'
        · cases ha'
        split at ha'
        · cases ha'
        split at ha'
        · cases ha'
        · cases ha'
      · omega
    have hr23 : r.lines.length ≤ 1023 := by have := hl.2.1; omega
    clear ha hd hl hlen hf0 hrl hrlen hlt
    go_enter Try.func22, Try.ntmps22
    go_upto_region 1 with fail
    have hbx : (w.alloc (.cells #[.pointer (some ⟨G, 0, none⟩), .pointer (some ⟨R, 0, none⟩)] 48)).alloc (.cells #[.int .i64 0, .int .i64 of_, .int .i64 a, .int .i64 b] 29) = w0 := HW0.out
    rw [hbx, ← HN.out]
    clear hbx
    go_wp2_with fail
    refine A1.out.mono ?_
    rintro e1 w1 ⟨rfl, g, F1, L1, c1, f1⟩
    have X1 := HX.out.chg c1 HFL.out
    obtain ⟨q0, q1, t0, t2, t3⟩ := X1.cells
    have M1 := Lib.hid (H.out.ms.logT L1 c1 f1)
    have C1 := Lib.hid c1
    have hsa := H.out.sim.add a b g HA.out
    have A2 := radd_yes a b M1.out.ref hr23 (by rw [H.out.sim.addR]; exact HA.out)
    rw [hsa.2, H.out.sim.now, H.out.sim.each, ← HD.out] at A2
    have HA2 := Lib.hid A2
    clear X1 L1 c1 f1 hsa A2 p0 p1 o0 o2 o3
    go_wp2_with fail
    refine HA2.out.mono ?_
    rintro e2 w2 ⟨rfl, FR2, R2, c2, f2⟩
    have M2 := Lib.hid (M1.out.refT R2 c2 f2)
    have C2 := Lib.hid c2
    have hfin := Lib.hid (show MvP Q w G R B k (.returned (.bool true)) w2 from by
      refine ⟨rfl, ?_, _, _, _, _, _, _, _, _, H.out.added a b g HA.out M2.out⟩
      have k1 := C1.out.mono (F' := Q) fun k i hk hf => H.out.ms.fF k i hf
      have k2 := C2.out.mono (F' := Q) fun k i hk hf => M1.out.fR k hf i
      exact (HBA.out.trans k1 fun _ _ _ h => h).trans k2 fun _ _ _ h => h)
    clear R2 c2 f2 HA2 A1 q0 q1 t0 t2 t3
    cases d <;>
    · go_wp2_with (first | (go_at_call 14; refine (num_any _ _).mono ?_; rintro e8 w8 ⟨rfl, rfl⟩))
      go_ret
      exact hfin.out
  · have A1 := Lib.hid (add_no a b H.out.ms.log hwa ha)
    have A2 := Lib.hid (fun m => radd_no a b (H.out.ms.below (below_drewN (Below.refl _ _) m)).ref hrl (by rw [H.out.sim.addR]; exact ha))
    have HE := Lib.hid (H.out.sim.addR a b)
    obtain ⟨q, hq⟩ : ∃ q, q = addR s a b := ⟨_, rfl⟩
    rw [HE.out, ← hq] at A2
    rw [← hq] at A1
    have HA := Lib.hid ha
    clear hl hlen hf0 hrlen ha hq
    go_enter Try.func22, Try.ntmps22
    go_upto_region 1 with fail
    have hbx : (w.alloc (.cells #[.pointer (some ⟨G, 0, none⟩), .pointer (some ⟨R, 0, none⟩)] 48)).alloc (.cells #[.int .i64 0, .int .i64 of_, .int .i64 a, .int .i64 b] 29) = w0 := HW0.out
    rw [hbx, ← HN.out]
    clear hbx
    go_wp2_with fail
    refine A1.out.mono ?_
    rintro e1 w1 ⟨rfl, m1, rfl⟩
    go_wp2_with fail
    refine (A2.out m1).mono ?_
    rintro e2 w2 ⟨rfl, m2, rfl⟩
    have hfin := Lib.hid (show MvP Q w G R B k (.returned (.bool true)) (w0.drewN (m1 + m2)) from
      ⟨rfl, HBA.out.drewN (m1 + m2), _, _, _, _, _, _, _, _, (H.out.ms' (H.out.ms.below (below_drewN (Below.refl _ _) (m1 + m2)))).next⟩)
    clear A1 A2 p0 p1 o0 o2 o3
    go_wp2_with (first | (go_at_call 14; refine (num_any _ _).mono ?_; rintro e8 w8 ⟨rfl, rfl⟩))
    go_ret
    exact hfin.out
end
end Go.Proofs.Ytagkhhoimgighaa
