/- The statement DigestHexBack, by walk. -/
import Derived.Test.YtepikbmlhejobaaHexMath
import Derived.Laws.Strings
import Derived.WideShapes
namespace Go.Proofs.Ytepikbmlhejobaa
open Go.RowKit

/-- a call gives this and leaves what was there -/
abbrev Gives (f : FuncId) (args : Array Value) (v : Value) : Prop := ∀ w, Calls Try.prog f args w fun e w' => e = .returned v ∧ Below w.heap.size w w'
set_option maxRecDepth 20000 in
set_option maxHeartbeats 8000000 in
theorem hexBack_ok (l m : List UInt8) (s T U X Y : ByteArray) (w : World) (hl : l.length = 32) (hm : m.length = 32)
    (c1 : Gives 15 #[.agg (arr encB l)] (.string T)) (c2 : Gives 16 #[.string T] (.tuple #[.agg (arr encB l), .int .i64 0]))
    (c3 : Gives 21 #[.string T] (.string U)) (c4 : Gives 16 #[.string U] (.tuple #[.agg (arr encB l), .int .i64 0]))
    (c5 : Gives 16 #[.string s] (.tuple #[.agg (arr encB m), .int .i64 0])) (c6 : Gives 15 #[.agg (arr encB m)] (.string X))
    (c7 : Gives 22 #[.string s] (.string Y)) (c8 : Gives 19 #[.agg (arr encB l), .agg (arr encB l)] (.bool true)) (hXY : X = Y) :
    Calls Try.prog 5 #[.agg (arr encB l), .string s] w fun e w' => e = .returned (.bool true) ∧ Below w.heap.size w w' := by
  subst hXY
  have hz := zeroArr
  have Hl := Lib.hid hl
  have Hm := Lib.hid hm
  clear hl hm
  obtain ⟨W0, hW0, hb0, hB0, hs0⟩ := new_blk w l
  go_enter Try.func5, Try.ntmps5
  go_wp2_with (first
    | ((with_reducible refine wpList_load_blk rfl 31 (.tmp 2) rfl w.heap.size 31 (arr encB l) ?hb rfl arrTy rfl (arrSz Hl.out) ?_); case hb => (rw [← hW0]; exact hb0))
    | (go_at_call 15; with_reducible refine (c1 _).mono ?_; rintro e1 w1 ⟨rfl, hB1⟩; rw [← hW0] at hB1; have hs1 := hB1.size; have hb1 := hb0.below hB1 (by omega))
    | (go_at_call 16; with_reducible refine (c2 _).mono ?_; rintro e2 w2 ⟨rfl, hB2⟩; have hs2 := hB2.size; have hb2 := hb1.below hB2 (by omega))
    | ((with_reducible refine wpList_store_blk rfl 31 (.tmp 6) (.tmp 17) rfl w2.heap.size 31 (arr encB zero32) (arr encB l) ?hb rfl rfl (arrSz Hl.out) (by rw [arr_size, arr_size, Hl.out, zero32_len]) (arr_one encB_one _) ?_); (case hb => exact Blk.new w2 _ _); intro w3 hb3 hg3 hs3; have hb4 := (hb2.alloc _).grown hg3 (by intro h; injection h with h; omega); rw [World.size_alloc] at hs3)
    | (go_at_call 21; with_reducible refine (c3 _).mono ?_; rintro e4 w4 ⟨rfl, hB4⟩; have hs4 := hB4.size; have hb5 := hb4.below hB4 (by omega); have hb6 := hb3.below hB4 (by omega))
    | (go_at_call 16; with_reducible refine (c4 _).mono ?_; rintro e5 w5 ⟨rfl, hB5⟩; have hs5 := hB5.size; have hb7 := hb5.below hB5 (by omega); have hb8 := hb6.below hB5 (by omega))
    | ((with_reducible refine wpList_store_blk rfl 31 (.tmp 8) (.tmp 23) rfl w5.heap.size 31 (arr encB zero32) (arr encB l) ?hb rfl rfl (arrSz Hl.out) (by rw [arr_size, arr_size, Hl.out, zero32_len]) (arr_one encB_one _) ?_); (case hb => exact Blk.new w5 _ _); intro w6 hb9 hg6 hs6; have hbA := (hb7.alloc _).grown hg6 (by intro h; injection h with h; omega); have hbB := (hb8.alloc _).grown hg6 (by intro h; injection h with h; omega); rw [World.size_alloc] at hs6)
    | (go_at_call 20; refine (num_any _ _).mono ?_; rintro e8 w8 ⟨rfl, rfl⟩)
    | ((refine wpList_on (by rfl) ?_); (with_reducible refine wpList_load_blk rfl 31 (.tmp 6) rfl w2.heap.size 31 (arr encB l) ?hb rfl arrTy rfl (arrSz Hl.out) ?_); case hb => exact hbB)
    | ((refine wpList_on (by rfl) ?_); (with_reducible refine wpList_load_blk rfl 31 (.tmp 2) rfl w.heap.size 31 (arr encB l) ?hb rfl arrTy rfl (arrSz Hl.out) ?_); case hb => first | exact hbA | exact hbC)
    | (go_at_call 19; with_reducible refine (c8 _).mono ?_; rintro e7 w7 ⟨rfl, hB7⟩; have hs7 := hB7.size; have hbC := hbA.below hB7 (by omega); have hbD := hb9.below hB7 (by omega))
    | ((refine wpList_on (by rfl) ?_); (with_reducible refine wpList_load_blk rfl 31 (.tmp 8) rfl w5.heap.size 31 (arr encB l) ?hb rfl arrTy rfl (arrSz Hl.out) ?_); case hb => exact hbD)
    | (go_at_call 19; with_reducible refine (c8 _).mono ?_; rintro e9 w9 ⟨rfl, hB9⟩; have hs9 := hB9.size; have hbE := hbC.below hB9 (by omega))
    | (go_at_call 16; with_reducible refine (c5 _).mono ?_; rintro eA wA ⟨rfl, hBA⟩; have hsA := hBA.size)
    | ((with_reducible refine wpList_store_blk rfl 31 (.tmp 10) (.tmp 48) rfl wA.heap.size 31 (arr encB zero32) (arr encB m) ?hb rfl rfl (arrSz Hm.out) (by rw [arr_size, arr_size, Hm.out, zero32_len]) (arr_one encB_one _) ?_); (case hb => exact Blk.new wA _ _); intro wB hbF hgB hsB; rw [World.size_alloc] at hsB)
    | ((with_reducible refine wpList_load_blk rfl 31 (.tmp 10) rfl wA.heap.size 31 (arr encB m) ?hb rfl arrTy rfl (arrSz Hm.out) ?_); case hb => exact hbF)
    | (go_at_call 15; with_reducible refine (c6 _).mono ?_; rintro eC wC ⟨rfl, hBC⟩; have hsC := hBC.size)
    | (go_at_call 22; with_reducible refine (c7 _).mono ?_; rintro eD wD ⟨rfl, hBD⟩))
  have k1 := hB0.trans (hB1.mono (B' := w.heap.size) (by omega))
  have k3 := below_only ((k1.trans (hB2.mono (by omega))).alloc (by omega) _) hg3 (by rw [World.size_alloc]; omega) (by omega)
  have k5 := (k3.trans (hB4.mono (by omega))).trans (hB5.mono (by omega))
  have k6 := below_only (k5.alloc (by omega) _) hg6 (by rw [World.size_alloc]; omega) (by omega)
  have k9 := ((k6.trans (hB7.mono (by omega))).trans (hB9.mono (by omega))).trans (hBA.mono (by omega))
  have kB := below_only (k9.alloc (by omega) _) hgB (by rw [World.size_alloc]; omega) (by omega)
  go_ret
  exact ⟨rfl, (kB.trans (hBC.mono (by omega))).trans (hBD.mono (by omega))⟩
set_option maxRecDepth 20000 in
set_option maxHeartbeats 8000000 in
theorem hexBack_no (l m : List UInt8) (s T U X Y : ByteArray) (w : World) (hl : l.length = 32) (hm : m.length = 32)
    (c1 : Gives 15 #[.agg (arr encB l)] (.string T)) (c2 : Gives 16 #[.string T] (.tuple #[.agg (arr encB l), .int .i64 0]))
    (c3 : Gives 21 #[.string T] (.string U)) (c4 : Gives 16 #[.string U] (.tuple #[.agg (arr encB l), .int .i64 0]))
    (c5 : Gives 16 #[.string s] (.tuple #[.agg (arr encB m), .int .i64 11])) (c6 : Gives 15 #[.agg (arr encB m)] (.string X))
    (c7 : Gives 22 #[.string s] (.string Y)) (c8 : Gives 19 #[.agg (arr encB l), .agg (arr encB l)] (.bool true)) (hm0 : Hid (m = zero32)) (hne : Hid (s.size = 64 → Y ≠ X)) (c9 : Gives 19 #[.agg (arr encB zero32), .agg (arr encB zero32)] (.bool true)) :
    Calls Try.prog 5 #[.agg (arr encB l), .string s] w fun e w' => e = .returned (.bool true) ∧ Below w.heap.size w w' := by
  have hz := zeroArr
  have Hl := Lib.hid hl
  have Hm := Lib.hid hm
  clear hl hm
  obtain ⟨W0, hW0, hb0, hB0, hs0⟩ := new_blk w l
  go_enter Try.func5, Try.ntmps5
  go_wp2_with (first
    | ((with_reducible refine wpList_load_blk rfl 31 (.tmp 2) rfl w.heap.size 31 (arr encB l) ?hb rfl arrTy rfl (arrSz Hl.out) ?_); case hb => (rw [← hW0]; exact hb0))
    | (go_at_call 15; with_reducible refine (c1 _).mono ?_; rintro e1 w1 ⟨rfl, hB1⟩; rw [← hW0] at hB1; have hs1 := hB1.size; have hb1 := hb0.below hB1 (by omega))
    | (go_at_call 16; with_reducible refine (c2 _).mono ?_; rintro e2 w2 ⟨rfl, hB2⟩; have hs2 := hB2.size; have hb2 := hb1.below hB2 (by omega))
    | ((with_reducible refine wpList_store_blk rfl 31 (.tmp 6) (.tmp 17) rfl w2.heap.size 31 (arr encB zero32) (arr encB l) ?hb rfl rfl (arrSz Hl.out) (by rw [arr_size, arr_size, Hl.out, zero32_len]) (arr_one encB_one _) ?_); (case hb => exact Blk.new w2 _ _); intro w3 hb3 hg3 hs3; have hb4 := (hb2.alloc _).grown hg3 (by intro h; injection h with h; omega); rw [World.size_alloc] at hs3)
    | (go_at_call 21; with_reducible refine (c3 _).mono ?_; rintro e4 w4 ⟨rfl, hB4⟩; have hs4 := hB4.size; have hb5 := hb4.below hB4 (by omega); have hb6 := hb3.below hB4 (by omega))
    | (go_at_call 16; with_reducible refine (c4 _).mono ?_; rintro e5 w5 ⟨rfl, hB5⟩; have hs5 := hB5.size; have hb7 := hb5.below hB5 (by omega); have hb8 := hb6.below hB5 (by omega))
    | ((with_reducible refine wpList_store_blk rfl 31 (.tmp 8) (.tmp 23) rfl w5.heap.size 31 (arr encB zero32) (arr encB l) ?hb rfl rfl (arrSz Hl.out) (by rw [arr_size, arr_size, Hl.out, zero32_len]) (arr_one encB_one _) ?_); (case hb => exact Blk.new w5 _ _); intro w6 hb9 hg6 hs6; have hbA := (hb7.alloc _).grown hg6 (by intro h; injection h with h; omega); have hbB := (hb8.alloc _).grown hg6 (by intro h; injection h with h; omega); rw [World.size_alloc] at hs6)
    | (go_at_call 20; refine (num_any _ _).mono ?_; rintro e8 w8 ⟨rfl, rfl⟩)
    | ((refine wpList_on (by rfl) ?_); (with_reducible refine wpList_load_blk rfl 31 (.tmp 6) rfl w2.heap.size 31 (arr encB l) ?hb rfl arrTy rfl (arrSz Hl.out) ?_); case hb => exact hbB)
    | ((refine wpList_on (by rfl) ?_); (with_reducible refine wpList_load_blk rfl 31 (.tmp 2) rfl w.heap.size 31 (arr encB l) ?hb rfl arrTy rfl (arrSz Hl.out) ?_); case hb => first | exact hbA | exact hbC)
    | (go_at_call 19; with_reducible refine (c8 _).mono ?_; rintro e7 w7 ⟨rfl, hB7⟩; have hs7 := hB7.size; have hbC := hbA.below hB7 (by omega); have hbD := hb9.below hB7 (by omega))
    | ((refine wpList_on (by rfl) ?_); (with_reducible refine wpList_load_blk rfl 31 (.tmp 8) rfl w5.heap.size 31 (arr encB l) ?hb rfl arrTy rfl (arrSz Hl.out) ?_); case hb => exact hbD)
    | (go_at_call 19; with_reducible refine (c8 _).mono ?_; rintro e9 w9 ⟨rfl, hB9⟩; have hs9 := hB9.size; have hbE := hbC.below hB9 (by omega))
    | (go_at_call 16; with_reducible refine (c5 _).mono ?_; rintro eA wA ⟨rfl, hBA⟩; have hsA := hBA.size)
    | ((with_reducible refine wpList_store_blk rfl 31 (.tmp 10) (.tmp 48) rfl wA.heap.size 31 (arr encB zero32) (arr encB m) ?hb rfl rfl (arrSz Hm.out) (by rw [arr_size, arr_size, Hm.out, zero32_len]) (arr_one encB_one _) ?_); (case hb => exact Blk.new wA _ _); intro wB hbF hgB hsB; rw [World.size_alloc] at hsB))
  have k1 := hB0.trans (hB1.mono (B' := w.heap.size) (by omega))
  have k3 := below_only ((k1.trans (hB2.mono (by omega))).alloc (by omega) _) hg3 (by rw [World.size_alloc]; omega) (by omega)
  have k5 := (k3.trans (hB4.mono (by omega))).trans (hB5.mono (by omega))
  have k6 := below_only (k5.alloc (by omega) _) hg6 (by rw [World.size_alloc]; omega) (by omega)
  have k9 := ((k6.trans (hB7.mono (by omega))).trans (hB9.mono (by omega))).trans (hBA.mono (by omega))
  have kB := below_only (k9.alloc (by omega) _) hgB (by rw [World.size_alloc]; omega) (by omega)
  clear hB0 hB1 hB2 hB4 hB5 hB7 hB9 hBA hb0 hb1 hb2 hb3 hb4 hb5 hb6 hb7 hb8 hb9 hbA hbB hbC hbD hbE hg3 hg6 hgB hW0 k1 k3 k5 k6 k9 c1 c2 c3 c4 c5 hs0 hs1 hs2 hs3 hs4 hs5 hs6 hs7 hs9 hsA
  have hle : w.heap.size ≤ wB.heap.size := kB.size
  have C9 := Lib.hid c9
  clear c9
  rw [hm0.out] at c6 hbF Hm
  have hR : wB.drew.rangeAt wA.heap.size 0 (zero32.map encB) := fun j v hj => by rw [Nat.zero_add, hbF.drew.cell]; simpa [arr] using hj
  have hT := arrTy
  have hdz : wB.drew.heap.size = wB.heap.size := rfl
  have hI : (Try.prog.info? 31).map (·.size) = some (zero32.map encB).length := by kernel_rfl
  have hbt : Try.prog.built 31 [] = some (zero32.map encB).toArray := builtArr
  have D9 : Gives 19 #[.agg (zero32.map encB).toArray, .agg #[.int .u8 0, .int .u8 0, .int .u8 0, .int .u8 0, .int .u8 0, .int .u8 0, .int .u8 0, .int .u8 0, .int .u8 0, .int .u8 0, .int .u8 0, .int .u8 0, .int .u8 0, .int .u8 0, .int .u8 0, .int .u8 0, .int .u8 0, .int .u8 0, .int .u8 0, .int .u8 0, .int .u8 0, .int .u8 0, .int .u8 0, .int .u8 0, .int .u8 0, .int .u8 0, .int .u8 0, .int .u8 0, .int .u8 0, .int .u8 0, .int .u8 0, .int .u8 0]] (.bool true) := C9.out
  clear hz
  have c6 : Gives 15 #[.agg (zero32.map encB).toArray] (.string X) := c6
  by_cases h64 : (s.size : Int) = 64
  · have hne2 := hne.out (by omega)
    have hq : (Y.toList == X.toList) = false := by
      rw [beq_eq_false_iff_ne, ByteArray.toList_eq, ByteArray.toList_eq]
      exact fun e => hne2 (WideShapes.bytes_inj e)
    have h65 : ((s.size : Int) != 64) = false := by rw [bne_eq_false_iff_eq]; exact h64
    clear h64 hne2
    refine wp_region_noPanic ?_
    refine wp_region_held_drew (S := fun w' => w'.rangeAt wA.heap.size 0 (zero32.map encB)) (by kernel_rfl) hR (fun hHeld => ?_)
    refine take_on (i := 0) (some 58) (v := ?v15) rfl rfl (by kernel_rfl) (by kernel_rfl) (by kernel_rfl) (fun _ _ _ h => h) (by rfl) ?hy15 (by assumption) ?rest15
    case hy15 => (intro wS hSw; (try dsimp only at hSw); go_simp; try with_reducible rfl)
    try simp only [Act.put, List.setIfInBounds_toArray, List.set_cons_zero, List.set_cons_succ]
    refine wpAnyH_ready (rs := [1]) (by kernel_rfl) (by simp) ?_
    refine AllReadyH.cons rfl (fun K hK => ?_) AllReadyH.nil
    go_simp
    (go_at_call 20; refine (num_any _ _).mono ?_; rintro e w' ⟨rfl, rfl⟩)
    refine hK.out _ _ (by exact hHeld) (fun hHeld => ?_)
    clear hK K
    try simp only [Act.put, List.setIfInBounds_toArray, List.set_cons_zero, List.set_cons_succ]
    refine take_on (i := 2) (some 60) (v := ?v16) rfl rfl (by kernel_rfl) (by kernel_rfl) (by kernel_rfl) (fun _ _ _ h => h) (by rfl) ?hy16 (by assumption) ?rest16
    case hy16 => (intro wS hSw; (try dsimp only at hSw); go_simp; try with_reducible rfl)
    try simp only [Act.put, List.setIfInBounds_toArray, List.set_cons_zero, List.set_cons_succ]
    refine take_on (i := 3) (some 61) (v := ?v17) rfl rfl (by kernel_rfl) (by kernel_rfl) (by kernel_rfl) (fun _ _ _ h => h) (by rfl) ?hy17 (by assumption) ?rest17
    case hy17 => (intro wS hSw; (try dsimp only at hSw); go_simp; try with_reducible rfl)
    try simp only [Act.put, List.setIfInBounds_toArray, List.set_cons_zero, List.set_cons_succ]
    refine take_on (i := 4) (some 62) (v := ?v18) rfl rfl (by kernel_rfl) (by kernel_rfl) (by kernel_rfl) (fun _ _ _ h => h) (by rfl) ?hy18 (by assumption) ?rest18
    case hy18 => (intro wS hSw; (try dsimp only at hSw); go_simp; try with_reducible rfl)
    try simp only [Act.put, List.setIfInBounds_toArray, List.set_cons_zero, List.set_cons_succ]
    refine take_on (i := 5) (some 63) (v := ?v19) rfl rfl (by kernel_rfl) (by kernel_rfl) (by kernel_rfl) (fun _ _ _ h => h) (by rfl) ?hy19 (by assumption) ?rest19
    case hy19 => (intro wS hSw; (try dsimp only at hSw); go_simp; try with_reducible rfl)
    try simp only [Act.put, List.setIfInBounds_toArray, List.set_cons_zero, List.set_cons_succ]
    refine take_on (i := 6) (some 64) (v := ?v20) rfl rfl (by kernel_rfl) (by kernel_rfl) (by kernel_rfl) (fun _ _ _ h => h) (by rfl) ?hy20 (by assumption) ?rest20
    case hy20 => (intro wS hSw; (try dsimp only at hSw); go_simp; try with_reducible rfl)
    try simp only [Act.put, List.setIfInBounds_toArray, List.set_cons_zero, List.set_cons_succ]
    refine take_on (i := 7) (some 65) (v := ?v21) rfl rfl (by kernel_rfl) (by kernel_rfl) (by kernel_rfl) (fun _ _ _ h => h) (by rfl) ?hy21 (by assumption) ?rest21
    case hy21 => (intro wS hSw; (try dsimp only at hSw); go_simp; try with_reducible rfl)
    try simp only [Act.put, List.setIfInBounds_toArray, List.set_cons_zero, List.set_cons_succ]
    refine take_on (i := 8) (some 66) (v := ?v22) rfl rfl (by kernel_rfl) (by kernel_rfl) (by kernel_rfl) (fun _ _ _ h => h) (by rfl) ?hy22 (by assumption) ?rest22
    case hy22 => (intro wS hSw; (try dsimp only at hSw); go_simp; try with_reducible rfl)
    try simp only [Act.put, List.setIfInBounds_toArray, List.set_cons_zero, List.set_cons_succ]
    refine take_on (i := 10) (some 68) (v := .agg (zero32.map encB).toArray) rfl rfl (by kernel_rfl) (by kernel_rfl) (by kernel_rfl) (fun _ _ _ h => h) (by rfl) ?hy23 (by assumption) ?rest23
    case hy23 => exact fun wS hSw => exec_load_mid _ _ rfl _ _ rfl _ _ hSw hT rfl hI
    try simp only [Act.put, List.setIfInBounds_toArray, List.set_cons_zero, List.set_cons_succ]
    refine wpAnyH_ready (rs := [9]) (by kernel_rfl) (by simp) ?_
    refine AllReadyH.cons rfl (fun K hK => ?_) AllReadyH.nil
    go_simp
    (go_at_call 22; with_reducible refine (c7 _).mono ?_; rintro eD wD ⟨rfl, hBD⟩; have hsD := hBD.size)
    refine hK.out _ _ (by exact fun j v hj => (hBD.cell (by show wA.heap.size < _; omega)).trans (hHeld j v hj)) (fun hHeld => ?_)
    clear hK K
    try simp only [Act.put, List.setIfInBounds_toArray, List.set_cons_zero, List.set_cons_succ]
    refine wpAnyH_ready (rs := [11]) (by kernel_rfl) (by simp) ?_
    refine AllReadyH.cons rfl (fun K hK => ?_) AllReadyH.nil
    go_simp
    (go_at_call 15; with_reducible refine (c6 _).mono ?_; rintro eC wC ⟨rfl, hBC⟩; have hsC := hBC.size)
    refine hK.out _ _ (by exact fun j v hj => (hBC.cell (by show wA.heap.size < _; omega)).trans (hHeld j v hj)) (fun hHeld => ?_)
    clear hK K
    try simp only [Act.put, List.setIfInBounds_toArray, List.set_cons_zero, List.set_cons_succ]
    refine take_on (i := 12) (some 70) (v := ?v24) rfl rfl (by kernel_rfl) (by kernel_rfl) (by kernel_rfl) (fun _ _ _ h => h) (by rfl) ?hy24 (by assumption) ?rest24
    case hy24 => (intro wS hSw; (try dsimp only at hSw); go_simp; try with_reducible rfl)
    try simp only [Act.put, List.setIfInBounds_toArray, List.set_cons_zero, List.set_cons_succ]
    refine take_on (i := 13) (some 71) (v := ?v25) rfl rfl (by kernel_rfl) (by kernel_rfl) (by kernel_rfl) (fun _ _ _ h => h) (by rfl) ?hy25 (by assumption) ?rest25
    case hy25 => (intro wS hSw; (try dsimp only at hSw); go_simp; try with_reducible rfl)
    try simp only [Act.put, List.setIfInBounds_toArray, List.set_cons_zero, List.set_cons_succ]
    refine take_on (i := 14) (some 72) (v := ?v26) rfl rfl (by kernel_rfl) (by kernel_rfl) (by kernel_rfl) (fun _ _ _ h => h) (by rfl) ?hy26 (by assumption) ?rest26
    case hy26 => (intro wS hSw; (try dsimp only at hSw); go_simp; try with_reducible rfl)
    try simp only [Act.put, List.setIfInBounds_toArray, List.set_cons_zero, List.set_cons_succ]
    refine take_on (i := 15) (some 73) (v := ?v27) rfl rfl (by kernel_rfl) (by kernel_rfl) (by kernel_rfl) (fun _ _ _ h => h) (by rfl) ?hy27 (by assumption) ?rest27
    case hy27 => (intro wS hSw; (try dsimp only at hSw); go_simp; try with_reducible rfl)
    try simp only [Act.put, List.setIfInBounds_toArray, List.set_cons_zero, List.set_cons_succ]
    refine take_on (i := 16) (some 74) (v := .agg (zero32.map encB).toArray) rfl rfl (by kernel_rfl) (by kernel_rfl) (by kernel_rfl) (fun _ _ _ h => h) (by rfl) ?hy28 (by assumption) ?rest28
    case hy28 => exact fun wS hSw => exec_load_mid _ _ rfl _ _ rfl _ _ hSw hT rfl hI
    try simp only [Act.put, List.setIfInBounds_toArray, List.set_cons_zero, List.set_cons_succ]
    refine take_on (i := 17) (some 75) (v := ?v29) rfl rfl (by kernel_rfl) (by kernel_rfl) (by kernel_rfl) (fun _ _ _ h => h) (by rfl) ?hy29 (by assumption) ?rest29
    case hy29 => (intro wS hSw; (try dsimp only at hSw); go_simp; try with_reducible rfl)
    try simp only [Act.put, List.setIfInBounds_toArray, List.set_cons_zero, List.set_cons_succ]
    refine wpAnyH_ready (rs := [18]) (by kernel_rfl) (by simp) ?_
    refine AllReadyH.cons rfl (fun K hK => ?_) AllReadyH.nil
    go_simp
    (go_at_call 19; with_reducible refine (D9 _).mono ?_; rintro eE wE ⟨rfl, hBE⟩)
    refine hK.out _ _ (by exact fun j v hj => (hBE.cell (by show wA.heap.size < _; omega)).trans (hHeld j v hj)) (fun hHeld => ?_)
    clear hK K
    try simp only [Act.put, List.setIfInBounds_toArray, List.set_cons_zero, List.set_cons_succ]
    refine take_on (i := 19) (some 77) (v := ?v30) rfl rfl (by kernel_rfl) (by kernel_rfl) (by kernel_rfl) (fun _ _ _ h => h) (by rfl) ?hy30 (by assumption) ?rest30
    case hy30 => (intro wS hSw; (try dsimp only at hSw); go_simp; try with_reducible rfl)
    try simp only [Act.put, List.setIfInBounds_toArray, List.set_cons_zero, List.set_cons_succ]
    refine take_on (i := 20) (some 4) (v := ?v31) rfl rfl (by kernel_rfl) (by kernel_rfl) (by kernel_rfl) (fun _ _ _ h => h) (by rfl) ?hy31 (by assumption) ?rest31
    case hy31 => (intro wS hSw; (try dsimp only at hSw); go_simp; try with_reducible rfl)
    try simp only [Act.put, List.setIfInBounds_toArray, List.set_cons_zero, List.set_cons_succ]
    refine wpAnyH_done (by kernel_rfl) ?_ _
    refine NoPanic.normal ?_
    go_wp2
    go_ret
    exact ⟨rfl, ((kB.drew.trans (hBD.mono (by show w.heap.size ≤ wB.heap.size; omega))).trans (hBC.mono (by omega))).trans (hBE.mono (by omega))⟩
  · have hq : ((s.size : Int) != 64) = true := by rw [bne_iff_ne]; exact h64
    clear h64
    refine wp_region_noPanic ?_
    refine wp_region_held_drew (S := fun w' => w'.rangeAt wA.heap.size 0 (zero32.map encB)) (by kernel_rfl) hR (fun hHeld => ?_)
    refine take_on (i := 0) (some 58) (v := ?v1) rfl rfl (by kernel_rfl) (by kernel_rfl) (by kernel_rfl) (fun _ _ _ h => h) (by rfl) ?hy1 (by assumption) ?rest1
    case hy1 => (intro wS hSw; (try dsimp only at hSw); go_simp; try with_reducible rfl)
    try simp only [Act.put, List.setIfInBounds_toArray, List.set_cons_zero, List.set_cons_succ]
    refine wpAnyH_ready (rs := [1]) (by kernel_rfl) (by simp) ?_
    refine AllReadyH.cons rfl (fun K hK => ?_) AllReadyH.nil
    go_simp
    (go_at_call 20; refine (num_any _ _).mono ?_; rintro e w' ⟨rfl, rfl⟩)
    refine hK.out _ _ (by exact hHeld) (fun hHeld => ?_)
    clear hK K
    try simp only [Act.put, List.setIfInBounds_toArray, List.set_cons_zero, List.set_cons_succ]
    refine take_on (i := 2) (some 60) (v := ?v2) rfl rfl (by kernel_rfl) (by kernel_rfl) (by kernel_rfl) (fun _ _ _ h => h) (by rfl) ?hy2 (by assumption) ?rest2
    case hy2 => (intro wS hSw; (try dsimp only at hSw); go_simp; try with_reducible rfl)
    try simp only [Act.put, List.setIfInBounds_toArray, List.set_cons_zero, List.set_cons_succ]
    refine take_on (i := 3) (some 61) (v := ?v3) rfl rfl (by kernel_rfl) (by kernel_rfl) (by kernel_rfl) (fun _ _ _ h => h) (by rfl) ?hy3 (by assumption) ?rest3
    case hy3 => (intro wS hSw; (try dsimp only at hSw); go_simp; try with_reducible rfl)
    try simp only [Act.put, List.setIfInBounds_toArray, List.set_cons_zero, List.set_cons_succ]
    refine take_on (i := 4) (some 62) (v := ?v4) rfl rfl (by kernel_rfl) (by kernel_rfl) (by kernel_rfl) (fun _ _ _ h => h) (by rfl) ?hy4 (by assumption) ?rest4
    case hy4 => (intro wS hSw; (try dsimp only at hSw); go_simp; try with_reducible rfl)
    try simp only [Act.put, List.setIfInBounds_toArray, List.set_cons_zero, List.set_cons_succ]
    refine take_on (i := 5) (some 63) (v := ?v5) rfl rfl (by kernel_rfl) (by kernel_rfl) (by kernel_rfl) (fun _ _ _ h => h) (by rfl) ?hy5 (by assumption) ?rest5
    case hy5 => (intro wS hSw; (try dsimp only at hSw); go_simp; try with_reducible rfl)
    try simp only [Act.put, List.setIfInBounds_toArray, List.set_cons_zero, List.set_cons_succ]
    refine take_on (i := 6) (some 64) (v := ?v6) rfl rfl (by kernel_rfl) (by kernel_rfl) (by kernel_rfl) (fun _ _ _ h => h) (by rfl) ?hy6 (by assumption) ?rest6
    case hy6 => (intro wS hSw; (try dsimp only at hSw); go_simp; try with_reducible rfl)
    try simp only [Act.put, List.setIfInBounds_toArray, List.set_cons_zero, List.set_cons_succ]
    refine take_on (i := 7) (some 65) (v := ?v7) rfl rfl (by kernel_rfl) (by kernel_rfl) (by kernel_rfl) (fun _ _ _ h => h) (by rfl) ?hy7 (by assumption) ?rest7
    case hy7 => (intro wS hSw; (try dsimp only at hSw); go_simp; try with_reducible rfl)
    try simp only [Act.put, List.setIfInBounds_toArray, List.set_cons_zero, List.set_cons_succ]
    refine take_off (i := 8) (some 66) rfl rfl (by kernel_rfl) (by kernel_rfl) (by kernel_rfl) (fun _ _ _ h => h) (by rfl) (by assumption) ?_
    try simp only [Act.put, List.setIfInBounds_toArray, List.set_cons_zero, List.set_cons_succ]
    refine take_off (i := 9) (some 67) rfl rfl (by kernel_rfl) (by kernel_rfl) (by kernel_rfl) (fun _ _ _ h => h) (by rfl) (by assumption) ?_
    try simp only [Act.put, List.setIfInBounds_toArray, List.set_cons_zero, List.set_cons_succ]
    refine take_off (i := 10) (some 68) rfl rfl (by kernel_rfl) (by kernel_rfl) (by kernel_rfl) (fun _ _ _ h => h) (by rfl) (by assumption) ?_
    try simp only [Act.put, List.setIfInBounds_toArray, List.set_cons_zero, List.set_cons_succ]
    refine take_off (i := 11) (some 69) rfl rfl (by kernel_rfl) (by kernel_rfl) (by kernel_rfl) (fun _ _ _ h => h) (by rfl) (by assumption) ?_
    try simp only [Act.put, List.setIfInBounds_toArray, List.set_cons_zero, List.set_cons_succ]
    refine take_off (i := 12) (some 70) rfl rfl (by kernel_rfl) (by kernel_rfl) (by kernel_rfl) (fun _ _ _ h => h) (by rfl) (by assumption) ?_
    try simp only [Act.put, List.setIfInBounds_toArray, List.set_cons_zero, List.set_cons_succ]
    refine take_on (i := 13) (some 71) (v := ?v8) rfl rfl (by kernel_rfl) (by kernel_rfl) (by kernel_rfl) (fun _ _ _ h => h) (by rfl) ?hy8 (by assumption) ?rest8
    case hy8 => (intro wS hSw; (try dsimp only at hSw); go_simp; try with_reducible rfl)
    try simp only [Act.put, List.setIfInBounds_toArray, List.set_cons_zero, List.set_cons_succ]
    refine take_on (i := 14) (some 72) (v := ?v9) rfl rfl (by kernel_rfl) (by kernel_rfl) (by kernel_rfl) (fun _ _ _ h => h) (by rfl) ?hy9 (by assumption) ?rest9
    case hy9 => (intro wS hSw; (try dsimp only at hSw); go_simp; try with_reducible rfl)
    try simp only [Act.put, List.setIfInBounds_toArray, List.set_cons_zero, List.set_cons_succ]
    refine take_on (i := 15) (some 73) (v := ?v10) rfl rfl (by kernel_rfl) (by kernel_rfl) (by kernel_rfl) (fun _ _ _ h => h) (by rfl) ?hy10 (by assumption) ?rest10
    case hy10 => (intro wS hSw; (try dsimp only at hSw); go_simp; try with_reducible rfl)
    try simp only [Act.put, List.setIfInBounds_toArray, List.set_cons_zero, List.set_cons_succ]
    refine take_on (i := 16) (some 74) (v := .agg (zero32.map encB).toArray) rfl rfl (by kernel_rfl) (by kernel_rfl) (by kernel_rfl) (fun _ _ _ h => h) (by rfl) ?hy11 (by assumption) ?rest11
    case hy11 => exact fun wS hSw => exec_load_mid _ _ rfl _ _ rfl _ _ hSw hT rfl hI
    try simp only [Act.put, List.setIfInBounds_toArray, List.set_cons_zero, List.set_cons_succ]
    refine take_on (i := 17) (some 75) (v := ?v12) rfl rfl (by kernel_rfl) (by kernel_rfl) (by kernel_rfl) (fun _ _ _ h => h) (by rfl) ?hy12 (by assumption) ?rest12
    case hy12 => (intro wS hSw; (try dsimp only at hSw); go_simp; try with_reducible rfl)
    try simp only [Act.put, List.setIfInBounds_toArray, List.set_cons_zero, List.set_cons_succ]
    refine wpAnyH_ready (rs := [18]) (by kernel_rfl) (by simp) ?_
    refine AllReadyH.cons rfl (fun K hK => ?_) AllReadyH.nil
    go_simp
    (go_at_call 19; with_reducible refine (D9 _).mono ?_; rintro eE wE ⟨rfl, hBE⟩)
    refine hK.out _ _ (by exact fun j v hj => (hBE.cell (by show wA.heap.size < _; omega)).trans (hHeld j v hj)) (fun hHeld => ?_)
    clear hK K
    try simp only [Act.put, List.setIfInBounds_toArray, List.set_cons_zero, List.set_cons_succ]
    refine take_on (i := 19) (some 77) (v := ?v13) rfl rfl (by kernel_rfl) (by kernel_rfl) (by kernel_rfl) (fun _ _ _ h => h) (by rfl) ?hy13 (by assumption) ?rest13
    case hy13 => (intro wS hSw; (try dsimp only at hSw); go_simp; try with_reducible rfl)
    try simp only [Act.put, List.setIfInBounds_toArray, List.set_cons_zero, List.set_cons_succ]
    refine take_on (i := 20) (some 4) (v := ?v14) rfl rfl (by kernel_rfl) (by kernel_rfl) (by kernel_rfl) (fun _ _ _ h => h) (by rfl) ?hy14 (by assumption) ?rest14
    case hy14 => (intro wS hSw; (try dsimp only at hSw); go_simp; try with_reducible rfl)
    try simp only [Act.put, List.setIfInBounds_toArray, List.set_cons_zero, List.set_cons_succ]
    refine wpAnyH_done (by kernel_rfl) ?_ _
    refine NoPanic.normal ?_
    go_wp2
    go_ret
    exact ⟨rfl, kB.drew.trans (hBE.mono (by show w.heap.size ≤ wB.heap.size; omega))⟩

end Go.Proofs.Ytepikbmlhejobaa
