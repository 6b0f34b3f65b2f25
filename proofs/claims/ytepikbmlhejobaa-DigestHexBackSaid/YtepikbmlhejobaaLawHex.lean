/- The statement DigestHex, by walk. -/
import Derived.Test.YtepikbmlhejobaaRefHex
namespace Go.Proofs.Ytepikbmlhejobaa
open Go.RowKit

theorem num_any (n : Int) (w : World) : Calls Try.prog 20 #[.int .i64 n] w fun e w' => e = .returned (.int .i64 n) ∧ w = w' := by
  go_enter Try.func20, Try.ntmps20
  go_wp2
  go_ret
  exact ⟨rfl, rfl⟩
/-- the statement's 'equal' where both are the same list -/
theorem equal_yes (l : List UInt8) (w : World) (hl : l.length = 32) :
    Calls Try.prog 19 #[.agg (arr encB l), .agg (arr encB l)] w fun e w' => e = .returned (.bool true) ∧ Below w.heap.size w w' :=
  (equal_any l l w hl hl).mono fun _ _ ⟨h, k⟩ => ⟨by rw [h, decide_eq_true rfl], k⟩
theorem new_blk (w : World) (l : List UInt8) : ∃ W, W = w.alloc (.cells (arr encB l) 31) ∧ Blk W w.heap.size 31 (arr encB l) ∧ Below w.heap.size w W ∧ W.heap.size = w.heap.size + 1 :=
  ⟨_, rfl, Blk.new w _ _, (Below.refl _ w).alloc (Nat.le_refl _) _, by simp⟩
set_option maxRecDepth 20000 in
set_option maxHeartbeats 4000000 in
theorem digestHex_any (l : List UInt8) (s : ByteArray) (w : World) (hl : l.length = 32) : Calls Try.prog 4 #[.agg (arr encB l), .string s] w fun e w' => e = .returned (.bool true) ∧ Below w.heap.size w w' := by
  have hz := zeroArr
  have hu := unhexT_length (strL s)
  have Hu := Lib.hid hu
  have Hl := Lib.hid hl
  clear hu hl
  obtain ⟨W0, hW0, hb0, hB0, hs0⟩ := new_blk w l
  go_enter Try.func4, Try.ntmps4
  go_wp2_with (first
    | ((with_reducible refine wpList_load_blk rfl 31 (.tmp 2) rfl w.heap.size 31 (arr encB l) ?hb rfl arrTy rfl (arrSz Hl.out) ?_); case hb => (first | (rw [← hW0]; exact hb0)))
    | (go_at_call 15; refine (hex_any l _ Hl.out).mono ?_; rintro e1 w1 ⟨rfl, hB1⟩; rw [← hW0] at hB1; have hs1 := hB1.size; have hb1 := hb0.below hB1 (by omega))
    | (go_at_call 16; refine (unhex_any s _).mono ?_; rintro e2 w2 ⟨rfl, hB2⟩; have hs2 := hB2.size; have hb2 := hb1.below hB2 (by omega))
    | ((with_reducible refine wpList_store_blk rfl 31 (.tmp 6) (.tmp 15) rfl w2.heap.size 31 (arr encB zero32) (arr encB (unhexT (strL s))) ?hb rfl rfl (arrSz Hu.out) (by rw [arr_size, arr_size, Hu.out, zero32_len]) (arr_one encB_one _) ?_); (case hb => exact Blk.new w2 _ _); intro w3 hb3 hg3 hs3; have hb4 := (hb2.alloc _).grown hg3 (by intro h; injection h with h; omega); rw [World.size_alloc] at hs3)
    | (go_at_call 17; refine (refUnhex_any s _).mono ?_; rintro e4 w4 ⟨rfl, hB4⟩; have hs4 := hB4.size; have hb5 := hb4.below hB4 (by omega); have hb6 := hb3.below hB4 (by omega))
    | ((with_reducible refine wpList_store_blk rfl 31 (.tmp 8) (.tmp 20) rfl w4.heap.size 31 (arr encB zero32) (arr encB (unhexT (strL s))) ?hb rfl rfl (arrSz Hu.out) (by rw [arr_size, arr_size, Hu.out, zero32_len]) (arr_one encB_one _) ?_); (case hb => exact Blk.new w4 _ _); intro w5 hb7 hg5 hs5; have hb8 := (hb5.alloc _).grown hg5 (by intro h; injection h with h; omega); have hb9 := (hb6.alloc _).grown hg5 (by intro h; injection h with h; omega); rw [World.size_alloc] at hs5)
    | ((with_reducible refine wpList_load_blk rfl 31 (.tmp 2) rfl w.heap.size 31 (arr encB l) ?hb rfl arrTy rfl (arrSz Hl.out) ?_); case hb => exact hb8)
    | (go_at_call 18; refine (refHex_any l _ Hl.out).mono ?_; rintro e6 w6 ⟨rfl, hB6⟩; have hs6 := hB6.size; have hbA := hb9.below hB6 (by omega); have hbB := hb7.below hB6 (by omega))
    | ((refine wpList_on (by rfl) ?_); (with_reducible refine wpList_load_blk rfl 31 (.tmp 6) rfl w2.heap.size 31 (arr encB (unhexT (strL s))) ?hb rfl arrTy rfl (arrSz Hu.out) ?_); case hb => exact hbA)
    | ((refine wpList_on (by rfl) ?_); (with_reducible refine wpList_load_blk rfl 31 (.tmp 8) rfl w4.heap.size 31 (arr encB (unhexT (strL s))) ?hb rfl arrTy rfl (arrSz Hu.out) ?_); case hb => exact hbB)
    | (go_at_call 19; refine (equal_yes (unhexT (strL s)) _ Hu.out).mono ?_; rintro e7 w7 ⟨rfl, hB7⟩)
    | (go_at_call 20; refine (num_any _ _).mono ?_; rintro e8 w8 ⟨rfl, rfl⟩))
  go_ret
  have c1 := hB0.trans (hB1.mono (B' := w.heap.size) (by omega))
  have c3 := below_only ((c1.trans (hB2.mono (by omega))).alloc (by omega) _) hg3 (by rw [World.size_alloc]; omega) (by omega)
  have c5 := below_only ((c3.trans (hB4.mono (by omega))).alloc (by omega) _) hg5 (by rw [World.size_alloc]; omega) (by omega)
  exact ⟨rfl, (c5.trans (hB6.mono (by omega))).trans (hB7.mono (by omega))⟩
end Go.Proofs.Ytepikbmlhejobaa
