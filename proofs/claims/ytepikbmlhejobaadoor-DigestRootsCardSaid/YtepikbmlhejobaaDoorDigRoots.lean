/- DigestRoots: the digest of any bytes is the one whose constants are roots of primes. -/
import Derived.Test.YtepikbmlhejobaaDoorRootsE
import Derived.Test.YtepikbmlhejobaaDoorPieces
namespace Go.Proofs.YtepikbmlhejobaaDoor
open Go.RowKit
set_option linter.unusedSimpArgs false
theorem rng_blk {v : World} {R t : Nat} {D : List UInt8} (hb : Blk v R t (arr encB D)) : v.rangeAt R 0 (D.map encB) := fun j x hx => by rw [Nat.zero_add, hb.cell]; simpa [arr] using hx
theorem sz32 {D : List UInt8} (h : D.length = 32) : (Tryd.prog.info? 36).map (·.size) = some (D.map encB).length := by rw [List.length_map, h]; kernel_rfl
set_option maxRecDepth 20000 in
set_option maxHeartbeats 4000000 in
theorem digestRoots_any (A : Option Addr) (cap n : Nat) (l : List UInt8) (w : World) (hln : l.length = n) (hn : n ≤ 140737488351232) (h : Rd encB w A l)
    (hT : Rd enc32 w (some ⟨3, 0, none⟩) ksL) (hS : Rd enc32 w (some ⟨0, 0, none⟩) startS.list) :
    Calls Tryd.prog 5 #[.slice A n cap] w fun e w' => e = .returned (.bool true) ∧ Below w.heap.size w w' := by
  have z1 := zeroA32
  have HP := Lib.hid h
  have HN := Lib.hid hln
  have HT := Lib.hid hT
  have HS := Lib.hid hS
  obtain ⟨D, hD⟩ : ∃ D, D = digestL ksL startS l := ⟨_, rfl⟩
  have HD := Lib.hid hD
  have HND := Lib.hid (show D.length = 32 by rw [hD]; exact digestL_len _ _ _)
  have g0 := Lib.hid (copied_s A cap n l w hln (by omega) h)
  clear hT hS h hD hln
  go_enter Tryd.func5, Tryd.ntmps5
  go_wp2_with fail
  with_reducible refine g0.out.mono ?_
  rintro e w1 ⟨A1, c1, rfl, r1, hc1, hc1m, _, hB1⟩
  have B1 := Lib.hid hB1
  have g1 := Lib.hid (sum256_n ksL ksL_len startS A1 c1 n l w1 HN.out hc1 hc1m (by omega) r1 (HT.out.below hB1) (HS.out.below hB1))
  rw [← HD.out] at g1
  clear g0 r1 hc1 hc1m hB1
  go_wp2_with fail
  with_reducible refine g1.out.mono ?_
  rintro e w2 ⟨rfl, hB2⟩
  have C2 := B1.out.trans (hB2.mono B1.out.size)
  obtain ⟨R1, hR1⟩ : ∃ R, R = w2.heap.size := ⟨_, rfl⟩
  have HR1 := Lib.hid hR1
  have lR1 : w.heap.size ≤ R1 := by rw [hR1]; exact C2.size
  have q0 : Blk (w2.alloc (.cells (arr encB zero32) 36)) R1 36 (arr encB zero32) := by rw [HR1.out]; exact Blk.new w2 _ _
  have HB2 := Lib.hid (C2.alloc C2.size (.cells (arr encB zero32) 36))
  clear g1 hB2 hR1 C2
  go_wp2_with (first
    | rw [← HR1.out]
    | ((with_reducible refine wpList_store_blk rfl 36 (.tmp 3) (.tmp 6) rfl R1 36 (arr encB zero32) (arr encB D) ?hb rfl rfl (arrSz HND.out) ?hl (arr_one encB_one _) ?_); (case hb => exact q0); (case hl => rw [arr_size, arr_size, zero32_len, HND.out]); intro w3 b3 hg3 hs3; clear hs3))
  have B3d := Lib.hid (below_only HB2.out hg3 HB2.out.size lR1).drew
  have b3d := b3.drew
  have g4 := Lib.hid (byRoots_any A cap n l w3.drew HN.out (by omega) (HP.out.below B3d.out))
  rw [← HD.out] at g4
  clear HB2 hg3 q0 b3
  refine wp_region_noPanic ?_
  refine wp_region_held_drew (S := fun w' => w'.rangeAt R1 0 (D.map encB)) (by kernel_rfl) (rng_blk b3d) (fun hHeld => ?_)
  refine take_on (i := 0) (some 7) (v := .agg (D.map encB).toArray) rfl rfl (by kernel_rfl) (by kernel_rfl) (by kernel_rfl) (fun _ _ _ h => h) (by rfl) ?hyr1 (by with_reducible exact hHeld) ?restr1
  case hyr1 => exact fun wS hSw => exec_load_mid _ _ rfl _ _ rfl _ _ (hSw) arrTy rfl (sz32 HND.out)
  try simp only [Act.put, List.setIfInBounds_toArray, List.set_cons_zero, List.set_cons_succ]
  refine take_on (i := 1) (some 8) (v := ?vr2) rfl rfl (by kernel_rfl) (by kernel_rfl) (by kernel_rfl) (fun _ _ _ h => h) (by rfl) ?hyr2 (by with_reducible exact hHeld) ?restr2
  case hyr2 => (intro wS hSw; (try dsimp only at hSw); go_simp; try with_reducible rfl)
  try simp only [Act.put, List.setIfInBounds_toArray, List.set_cons_zero, List.set_cons_succ]
  refine wpAnyH_ready (rs := [2]) (by kernel_rfl) (by simp) ?_
  refine AllReadyH.cons rfl (fun K hK => ?_) AllReadyH.nil
  go_simp
  with_reducible refine g4.out.mono ?_
  rintro e w4 ⟨rfl, hB4⟩
  have b4 := b3d.below hB4 b3d.lt
  have B4 := Lib.hid (B3d.out.trans (hB4.mono B3d.out.size))
  have g5 := Lib.hid (equal_any D D w4 HND.out HND.out)
  rw [show decide (D = D) = true from decide_eq_true rfl] at g5
  clear g4 hB4 b3d
  refine hK.out _ _ (rng_blk b4) (fun hHeld => ?_)
  clear hK K
  try simp only [Act.put, List.setIfInBounds_toArray, List.set_cons_zero, List.set_cons_succ]
  refine wpAnyH_ready (rs := [3]) (by kernel_rfl) (by simp) ?_
  refine AllReadyH.cons rfl (fun K hK => ?_) AllReadyH.nil
  go_simp
  refine g5.out.mono ?_
  rintro e w5 ⟨rfl, hB5⟩
  have b5 := b4.below hB5 b4.lt
  have B5 := Lib.hid (B4.out.trans (hB5.mono B4.out.size))
  clear g5 hB5 b4
  refine hK.out _ _ (rng_blk b5) (fun hHeld => ?_)
  clear hK K
  try simp only [Act.put, List.setIfInBounds_toArray, List.set_cons_zero, List.set_cons_succ]
  refine take_on (i := 4) (some 2) (v := ?vr3) rfl rfl (by kernel_rfl) (by kernel_rfl) (by kernel_rfl) (fun _ _ _ h => h) (by rfl) ?hyr3 (by with_reducible exact hHeld) ?restr3
  case hyr3 => (intro wS hSw; (try dsimp only at hSw); go_simp; try with_reducible rfl)
  try simp only [Act.put, List.setIfInBounds_toArray, List.set_cons_zero, List.set_cons_succ]
  refine wpAnyH_done (by kernel_rfl) ?_ _
  refine NoPanic.normal ?_
  go_wp2
  go_ret
  exact ⟨rfl, B5.out⟩
end Go.Proofs.YtepikbmlhejobaaDoor
