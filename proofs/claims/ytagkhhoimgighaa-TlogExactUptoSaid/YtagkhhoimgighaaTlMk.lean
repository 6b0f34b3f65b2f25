/- Package replicalaw10: makes, by contract. -/
import Derived.Test.YtagkhhoimgighaaTlBq
namespace Go.Proofs.Ytagkhhoimgighaa
open Go.RowKit
set_option linter.unusedVariables false
set_option linter.unusedSimpArgs false
def ptrO (k : Option Nat) : Value := .pointer (k.map fun g => ⟨g, 0, none⟩)
theorem prSz2 : (Try.prog.info? 48).map (·.size) = some 2 := by kernel_rfl
theorem prSz (x y : Value) : (Try.prog.info? 48).map (·.size) = some (#[x, y] : Array Value).size := prSz2
theorem size2 (x y a b : Value) : (#[x, y] : Array Value).size = (#[a, b] : Array Value).size := rfl
theorem one2 {x y : Value} (hx : x.oneCell' = true) (hy : y.oneCell' = true) : (#[x, y] : Array Value).all (·.oneCell') = true := by simp [hx, hy]
set_option maxRecDepth 20000 in
set_option maxHeartbeats 8000000 in
theorem makes_yes (limit width : Int) (w : World) (h : goodB limit width) : Calls Try.prog 21 #[.int .i64 limit, .int .i64 width] w fun e w' =>
    ∃ (G R : Nat) (F : Nat → Nat → Prop) (FR : Nat → Prop), e = .returned (.tuple #[.agg #[.pointer (some ⟨G, 0, none⟩), .pointer (some ⟨R, 0, none⟩)], .bool true]) ∧ LogAt w' G (newS limit width) F ∧ RefAt w' R ⟨[], 1, limit, width⟩ FR ∧ Below w.heap.size w w' ∧ (∀ k i, F k i → w.heap.size ≤ k) ∧ (∀ k, FR k → w.heap.size ≤ k) ∧ (∀ k i, F k i → ¬ FR k) := by
  obtain ⟨w0, hw0⟩ : ∃ W, W = w.alloc (.cells #[.pointer none, .pointer none] 48) := ⟨_, rfl⟩
  have B0 : Below w.heap.size w w0 := by rw [hw0]; exact (Below.refl _ w).alloc (Nat.le_refl _) _
  have X0 : Blk w0 w.heap.size 48 #[.pointer none, .pointer none] := by rw [hw0]; exact Blk.new w _ _
  have H0 := Lib.hid hw0.symm
  have N1 := Lib.hid (new_yes limit width w0 h)
  have N2 := Lib.hid (fun W => rnew_yes limit width W h)
  have hs0 : w0.heap.size = w.heap.size + 1 := by rw [hw0, World.size_alloc]
  have HS0 := Lib.hid hs0
  have HB0 := Lib.hid B0
  have HX0 := Lib.hid X0
  clear hw0 h B0 X0 hs0
  go_enter Try.func21, Try.ntmps21
  go_wp2_with fail
  rw [H0.out]
  refine N1.out.mono ?_
  rintro e1 w1 ⟨G, F, rfl, L1, b1, f1⟩
  have HL1 := Lib.hid L1
  have HB1 := Lib.hid b1
  have HF1 := Lib.hid f1
  clear L1 b1 f1
  go_wp2_with fail
  refine (N2.out w1).mono ?_
  rintro e2 w2 ⟨R, FR, rfl, R2, b2, f2⟩
  have HR2 := Lib.hid R2
  have HB2 := Lib.hid b2
  have HF2 := Lib.hid f2
  have hX2 : Blk w2 w.heap.size 48 #[.pointer none, .pointer none] := (HX0.out.below HB1.out HX0.out.lt).below HB2.out (Nat.lt_of_lt_of_le HX0.out.lt HB1.out.size)
  clear R2 b2 f2
  go_wp2_with (first
    | (go_at_call 14; refine (num_any _ _).mono ?_; rintro e8 w8 ⟨rfl, rfl⟩)
    | ((with_reducible refine wpList_store_blk rfl 48 (.tmp 4) (.tmp 24) rfl w.heap.size 48 #[.pointer none, .pointer none] #[.pointer (some ⟨G, 0, none⟩), .pointer (some ⟨R, 0, none⟩)] ?hb rfl rfl (prSz _ _) (size2 _ _ _ _) (one2 rfl rfl) ?_); (case hb => exact hX2); intro w3 hb3 hg3 hs3))
  refine bodyPost_cell_tmp (u := 5) (p := 4) rfl w.heap.size 48 _ (0, 0) _ rfl hb3 Try.underlying48 rfl (prSz _ _) rfl ?_
  have c3 : Chg (fun k _ => k = w.heap.size) w2 w3 := Chg.of_row (F := fun k _ => k = w.heap.size) hg3 hX2 hb3 rfl fun _ => rfl
  have s0 := HS0.out
  have s1 := HB1.out.size
  have s2 := HB2.out.size
  have fG : ∀ k i, F k i → w0.heap.size ≤ k := HF1.out
  have fR : ∀ k, FR k → w1.heap.size ≤ k := HF2.out
  refine ⟨G, R, F, FR, rfl, ?_, HR2.out.chg c3 (fun k hk i e => by have := fR k hk; omega), ?_, fun k i hk => by have := fG k i hk; omega, fun k hk => by have := fR k hk; omega, fun k i hk hr => ?_⟩
  · exact (HL1.out.chg (Chg.of_below (fun _ _ => False) HB2.out) fun _ _ _ h => h).chg c3 fun k i hk e => by have := fG k i hk; omega
  · exact ((HB0.out.trans (HB1.out.mono (by omega))).trans (HB2.out.mono (by omega))).trans (c3.below (by omega) fun k i hk e => by omega)
  · have := fR k hr
    have := HL1.out.fp_lt hk
    omega
set_option maxRecDepth 20000 in
set_option maxHeartbeats 8000000 in
theorem makes_no (limit width : Int) (w : World) (h : ¬ goodB limit width) : Calls Try.prog 21 #[.int .i64 limit, .int .i64 width] w fun e w' =>
    e = .returned (.tuple #[.agg #[.pointer none, .pointer none], .bool true]) ∧ Below w.heap.size w w' := by
  obtain ⟨w0, hw0⟩ : ∃ W, W = w.alloc (.cells #[.pointer none, .pointer none] 48) := ⟨_, rfl⟩
  have B0 : Below w.heap.size w w0 := by rw [hw0]; exact (Below.refl _ w).alloc (Nat.le_refl _) _
  have X0 : Blk w0 w.heap.size 48 #[.pointer none, .pointer none] := by rw [hw0]; exact Blk.new w _ _
  have H0 := Lib.hid hw0.symm
  have N1 := Lib.hid (new_no limit width w0 h)
  have N2 := Lib.hid (rnew_no limit width w0 h)
  have HB0 := Lib.hid B0
  clear hw0 h B0
  go_enter Try.func21, Try.ntmps21
  go_wp2_with fail
  rw [H0.out]
  refine N1.out.mono ?_
  rintro e1 w1 ⟨rfl, rfl⟩
  go_wp2_with fail
  refine N2.out.mono ?_
  rintro e2 w2 ⟨rfl, rfl⟩
  go_wp2_with (first
    | (go_at_call 14; refine (num_any _ _).mono ?_; rintro e8 w8 ⟨rfl, rfl⟩)
    | ((with_reducible refine wpList_store_blk rfl 48 (.tmp 4) (.tmp 24) rfl w.heap.size 48 #[.pointer none, .pointer none] #[.pointer none, .pointer none] ?hb rfl rfl (prSz _ _) (size2 _ _ _ _) (one2 rfl rfl) ?_); (case hb => exact X0); intro w3 hb3 hg3 hs3))
  refine bodyPost_cell_tmp (u := 5) (p := 4) rfl w.heap.size 48 _ (0, 0) _ rfl hb3 Try.underlying48 rfl (prSz _ _) rfl ⟨rfl, ?_⟩
  exact below_only HB0.out hg3 HB0.out.size (Nat.le_refl _)
end Go.Proofs.Ytagkhhoimgighaa
