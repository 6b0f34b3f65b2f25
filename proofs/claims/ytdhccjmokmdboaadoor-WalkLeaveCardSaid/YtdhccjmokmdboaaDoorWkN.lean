/- WalkLeave: a walk that is refused; the law. -/
import Derived.Test.YtdhccjmokmdboaaDoorWkM
namespace Go.Proofs.YtdhccjmokmdboaaDoor
open Go.RowKit
set_option linter.unusedVariables false
set_option linter.unusedSimpArgs false
attribute [local go_sem] Oper.semAt_some
section
variable {A : Option Addr} {c L : Nat} {ws : List Nat} {w : World}
set_option maxRecDepth 100000 in
set_option maxHeartbeats 1000000 in
theorem leave_no (n s : Int) (k : Int) (HL : Hid (L = ws.length)) (HZ : Hid (ws.length ≤ 9223372036854775807)) (HB : Hid (∀ x ∈ ws, x < 18446744073709551616)) (HR : Hid (Rd encU w A ws)) (HT : Hid (TabW w)) (HTl : Hid (0 < w.heap.size)) (hLb : L ≤ 17592186044416) (HN : Hid (newE n s ws ≠ 0)) :
    Calls Tryd.prog 5 #[.int .i64 n, .slice A L c, .int .i64 s, .int .i64 k] w fun e w' => e = .returned (.bool true) ∧ Below w.heap.size w w' := by
  obtain ⟨v, hv⟩ : ∃ v, v = newE n s ws := ⟨_, rfl⟩
  have HV := Lib.hid (show v ≠ 0 from by rw [hv]; exact HN.out)
  have hv0 : (v != 0) = true := by rw [bne_iff_ne]; exact HV.out
  have OW := Lib.hid (fun (W : World) (h : Rd encU W A ws) => by have h1 := own13_any A c ws (by have := HL.out; omega) W h; rw [← HL.out] at h1; exact (callsIn_wide (n := 8)).2 h1)
  have NWg := Lib.hid (fun (W : World) (A1 : Option Addr) (c1 : Nat) (h : Rd encU W A1 ws) (ht : TabW W) => by have h1 := wnew_any (A := A1) (c := c1) n s HZ.out HB.out h ht; rw [← HL.out, ← hv] at h1; exact (callsIn_wide (n := 8)).2 h1)
  have X3 := Lib.hid (fun (W : World) (G : Nat) (hG : G = W.heap.size) (ht : TabW (W.alloc (.cells #[.int .u64 1] 28))) => show CallsIn Fence.wide 8 Tryd.prog 7 #[.int .i64 1, .slice (some ⟨G, 0, none⟩) 1 1, .int .i64 0] (W.alloc (.cells #[.int .u64 1] 28)) (fun e w' => ∃ K3, e = .returned (.tuple #[.pointer (some ⟨K3, 0, none⟩), .int .i64 0]) ∧ (CallsIn Fence.wide 8 Tryd.prog 11 #[.pointer (some ⟨K3, 0, none⟩)] w' fun e w2 => e = .returned (.int .i64 1) ∧ w' = w2) ∧ Below (W.alloc (.cells #[.int .u64 1] 28)).heap.size (W.alloc (.cells #[.int .u64 1] 28)) w') from by
    subst hG
    refine (callsIn_wide (n := 8)).2 ((wnew_any (A := some ⟨W.heap.size, 0, none⟩) (c := 1) (ws := [1]) 1 0 (by simp) (by simp) (Rd.one encU W 28 1) ht).mono ?_)
    rintro e w' (⟨h0, _⟩ | ⟨_, _, K3, A5, c5, rfl, hk, hB, _, _⟩)
    · exact absurd x13_new h0
    · refine ⟨K3, rfl, ?_, hB⟩
      have hl := (callsIn_wide (n := 8)).2 (wleft_any hk)
      rw [show (walkL [1] (Int.toNat 1) (Int.toNat 0)).length = 1 from x13_walk] at hl
      exact hl)
  clear hv HN
  have RD0 : Rd encU ((w.alloc (.cells #[.int .i64 k] 3)).alloc (.cells #[.bool false] 4)) A ws := (HR.out.alloc _).alloc _
  have B00 : Below w.heap.size w ((w.alloc (.cells #[.int .i64 k] 3)).alloc (.cells #[.bool false] 4)) := ((Below.refl _ w).alloc (Nat.le_refl _) _).alloc (by simp) _
  have TB0 : TabW ((w.alloc (.cells #[.int .i64 k] 3)).alloc (.cells #[.bool false] 4)) := HT.out.below B00 HTl.out
  have Ht0 : 0 < ((w.alloc (.cells #[.int .i64 k] 3)).alloc (.cells #[.bool false] 4)).heap.size := Nat.lt_of_lt_of_le HTl.out B00.size
  refine (callsIn_wide (n := 9)).1 ?_
  refine callsIn_of_wp_marks Tryd.func5 rfl trivial ?_ rfl
  simp only [Tryd.ntmps5, List.size_toArray, List.length_cons, List.length_nil, Nat.reduceAdd, Nat.reduceSub, Array.replicate_succ, Array.replicate_zero, List.push_toArray, List.append_toArray, List.nil_append, List.cons_append]
  gi_wp2_with (first | (refine ⟨trivial, ?_⟩; gi_at_call 8; (with_reducible refine (OW.out _ RD0).mono ?_); rintro e w1 ⟨A1, c1, rfl, hown, B1⟩; have RDo1 := own13_rd (A := A1) (c := c1) (by rw [← HL.out]; exact hown); have TB1 := TB0.below B1 Ht0; have HB1 := Lib.hid B1; clear hown B1) | (refine ⟨trivial, ?_⟩; gi_at_call 7; (with_reducible refine (NWg.out _ A1 c1 RDo1 TB1).mono ?_); rintro e w2 hnew; obtain ⟨_, rfl, B2⟩ | ⟨h0, _⟩ := hnew; rotate_left; exact absurd h0 HV.out; have hs1 := HB1.out.size; have Bw2 := HB1.out.trans (B2.mono hs1); have RD2 := RD0.below Bw2; have TB2 := TB0.below Bw2 Ht0; have Ht2 := Nat.lt_of_lt_of_le Ht0 Bw2.size; have HB2 := Lib.hid Bw2; clear hs1 Bw2 B2) | (refine ⟨trivial, ?_⟩; gi_at_call 8; (with_reducible refine (OW.out _ RD2).mono ?_); rintro e w3 ⟨A3, c3, rfl, hown, B3⟩; have RDo3 := own13_rd (A := A3) (c := c3) (by rw [← HL.out]; exact hown); have TB3 := TB2.below B3 Ht2; have HB3 := Lib.hid B3; clear hown B3) | (refine ⟨trivial, ?_⟩; gi_at_call 7; (with_reducible refine (NWg.out _ A3 c3 RDo3 TB3).mono ?_); rintro e w4 hnew; obtain ⟨_, rfl, B4⟩ | ⟨h0, _⟩ := hnew; rotate_left; exact absurd h0 HV.out; have hs3 := HB3.out.size; have Bw4 := HB3.out.trans (B4.mono hs3); have TB4 := TB2.below Bw4 Ht2; have Ht4 := Nat.lt_of_lt_of_le Ht2 Bw4.size; have HB4 := Lib.hid Bw4; clear hs3 Bw4 B4) | (refine ⟨trivial, ?_⟩; gi_at_call 7; (with_reducible refine (X3.out (w4.alloc (.cells #[.pointer none] 23)) (w4.heap.size + 1) (by simp) (TB4.below (((Below.refl w4.heap.size w4).alloc (Nat.le_refl _) (.cells #[.pointer none] 23)).alloc (by simp) (.cells #[.int .u64 1] 28)) Ht4)).mono ?_); rintro e w6 ⟨K3, rfl, hL3, B6⟩; have vx6 : w6.cell? ⟨w4.heap.size, 0, none⟩ = some (.pointer none) := (((Blk.new w4 23 #[.pointer none]).alloc (.cells #[.int .u64 1] 28)).below B6 (by simp; omega)).cell 0; have z2 := HB2.out.size; have z4 := HB4.out.size; have B46 := ((((Below.refl w4.heap.size w4).alloc (Nat.le_refl _) (.cells #[.pointer none] 23)).alloc (by simp) (.cells #[.int .u64 1] 28)).trans (B6.mono (by simp; omega))); have B06 := HB2.out.trans ((HB4.out.trans (B46.mono z4)).mono z2); have b1 := Blk.new (w.alloc (.cells #[.int .i64 k] 3)) 4 #[.bool false]; rw [World.size_alloc] at b1; have b6 := b1.below B06 (by simp); have rb6 := b6.cell 0; have rf6 := b6.frozen 0; have FIN := Lib.hid (show (w6.setCell ⟨w.heap.size + 1, 0, none⟩ (.bool true)).cell? ⟨w.heap.size + 1, 0, none⟩ = some (.bool true) ∧ Below w.heap.size w (w6.setCell ⟨w.heap.size + 1, 0, none⟩ (.bool true)) from ⟨(b6.set_ 0 (.bool true)).cell 0, (B00.trans (B06.mono (by simp; omega))).trans ((Chg.setCell (fun k _ => k = w.heap.size + 1) w6 (g := w.heap.size + 1) (i := 0) rfl _).below (by have := B06.size; simp at this; omega) fun k i hk e => by omega)⟩); have HX3 := Lib.hid hL3; clear hL3 B6 B46 B06 b1 b6 z2 z4) | (refine ⟨trivial, ?_⟩; gi_at_call 9; (with_reducible refine ((callsIn_wide (n := 8)).2 (num13_any _ _)).mono ?_); rintro e w' ⟨rfl, rfl⟩) | (refine ⟨trivial, ?_⟩; gi_at_call 11; (with_reducible refine (HX3.out).mono ?_); rintro e w' ⟨rfl, rfl⟩))
  unfold bodyPostM LeavesInM LeavesIn
  exact ⟨_, results_cell1 rfl _ _ _ ⟨w.heap.size + 1, 0, none⟩ (.bool true) rfl (load_bool FIN.out.1), rfl, FIN.out.2⟩
theorem leave_law (n s k : Int) (A : Option Addr) (c : Nat) (ws : List Nat) (w : World) (hz : ws.length * 8 ≤ 140737488355328) (hr : Rd encU w A ws) (hb : ∀ x ∈ ws, x < 18446744073709551616) (ht : TabW w) (hl : 0 < w.heap.size) :
    Calls Tryd.prog 5 #[.int .i64 n, .slice A ws.length c, .int .i64 s, .int .i64 k] w fun e w' => e = .returned (.bool true) ∧ Below w.heap.size w w' := by
  by_cases h0 : newE n s ws = 0
  · have h1 : ¬ (n < 1 ∨ 65536 < n) := fun h => by unfold newE at h0; rw [if_pos h] at h0; cases h0
    have h2 : ¬ (s < 0 ∨ n < s) := fun h => by unfold newE at h0; rw [if_neg h1, if_pos h] at h0; cases h0
    obtain ⟨nn, rfl⟩ : ∃ nn : Nat, n = nn := ⟨n.toNat, by omega⟩
    obtain ⟨ss, rfl⟩ : ∃ ss : Nat, s = ss := ⟨s.toNat, by omega⟩
    exact leave_yes (L := ws.length) nn ss k (Lib.hid rfl) (Lib.hid (by omega)) (Lib.hid hb) (Lib.hid hr) (Lib.hid ht) (Lib.hid hl) (by omega) (Lib.hid h0) (by omega)
  · exact leave_no (L := ws.length) n s k (Lib.hid rfl) (Lib.hid (by omega)) (Lib.hid hb) (Lib.hid hr) (Lib.hid ht) (Lib.hid hl) (by omega) (Lib.hid h0)
end
end Go.Proofs.YtdhccjmokmdboaaDoor
