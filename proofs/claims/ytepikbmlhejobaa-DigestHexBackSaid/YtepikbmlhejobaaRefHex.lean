/- The document's Hex and Unhex, by contract. -/
import Derived.Test.YtepikbmlhejobaaUnhex
namespace Go.Proofs.Ytepikbmlhejobaa
open Go.RowKit
attribute [local go_sem] u8_and15_ vB_shr4 vB_and15

theorem vB_div16 (b : UInt8) : vB b / (16 : Int) = vB (b >>> 4) := vB_shr4 b
theorem refHexv_lt (c : UInt8) (h : hexv c < 16) : refHexv c = hexv c := by unfold refHexv; rw [if_neg (by omega)]
theorem refHexv_no (c : UInt8) (h : ¬ hexv c < 16) : refHexv c = -1 := by unfold refHexv; rw [if_pos (by have := hexv_le c; omega)]
theorem byte_sum (a b : Nat) (ha : a < 16) (hb : b < 16) : IntKind.u8.wrap (16 * (a : Int) + (b : Int)) = vB (byteOf a b) := by
  unfold vB byteOf
  rw [UInt8.toNat_ofNat_of_lt' (by show 16 * a + b < 256; omega), IntKind.wrap_u8]
  omega
set_option maxRecDepth 20000 in
set_option maxHeartbeats 4000000 in
theorem refUnhex_any (s : ByteArray) (w : World) : Calls Try.prog 17 #[.string s] w (UnPost (strL s) w) := by
  have hz := zeroArr
  by_cases hlen : s.size = 64
  case neg =>
    have e1 : unhexT (strL s) = zero32 := by unfold unhexT; rw [hexOk_len (by rw [strL_length]; exact hlen)]; rfl
    have e2 : unhexE (strL s) = 11 := by unfold unhexE; rw [hexOk_len (by rw [strL_length]; exact hlen)]; rfl
    have h1 : ((s.size : Int) != 64) = true := by rw [bne_iff_ne]; omega
    have E1 := Lib.hid e1
    have E2 := Lib.hid e2
    clear e1 e2 hlen
    go_enter Try.func17, Try.ntmps17
    obtain ⟨W, hW, hb1, hb2, hB, hsz⟩ := two_blks w
    go_wp2_with (first | ((with_reducible refine wpList_load_blk rfl 31 (.tmp 4) rfl (w.heap.size + 1) 31 (arr encB zero32) ?hb rfl arrTy rfl (arrSz zero32_len) ?_); case hb => (rw [← hW]; exact hb2)) | ((with_reducible refine wpList_store_blk rfl 31 (.tmp 2) (.tmp 12) rfl w.heap.size 31 (arr encB zero32) (arr encB zero32) ?hb rfl rfl (arrSz zero32_len) rfl (arr_one encB_one _) ?_); case hb => (rw [← hW]; exact hb1)); intro w1 hb3 hg3 hs3)
    rw [← hW] at hg3
    refine bodyPost_cell_tmp rfl w.heap.size 31 (arr encB zero32) (0, 0) _ rfl hb3 arrTy rfl (arrSz zero32_len) rfl ?_
    exact ⟨by rw [E1.out, E2.out]; rfl, below_only hB hg3 (by omega) (Nat.le_refl _)⟩
  have h1 : ((s.size : Int) != 64) = false := by rw [bne_eq_false_iff_eq]; omega
  have hL : (strL s).length = 64 := by rw [strL_length]; exact hlen
  have HL := Lib.hid hL
  obtain ⟨W, hW, hb1, hb2, hB, hsz⟩ := two_blks w
  clear hlen hL
  go_enter Try.func17, Try.ntmps17
  go_wp2_with fail
  rw [← hW]
  clear hW
  go_loopw [5] (fun c wr => ∃ k : Nat, k ≤ 32 ∧ c = .int .i64 k ∧ (∀ i, i < 2 * k → hexv ((strL s).getD i 0) < 16) ∧ Blk wr w.heap.size 31 (arr encB zero32) ∧ Blk wr (w.heap.size + 1) 31 (arr encB (partOf (strL s) k)) ∧ Below w.heap.size w wr) (fun c _ => 32 - (intOf c).toNat)
  case atStart => exact ⟨0, by omega, rfl, fun i hi => by omega, hb1, by rw [partOf_zero]; exact hb2, hB⟩
  case round =>
    obtain ⟨k, hk, rfl, hgood, hc1, hc2, hBr⟩ := hrel
    have Hgood := Lib.hid hgood
    clear hgood hb1 hb2 hB
    have hsr := hBr.size
    by_cases hlt : k < 32
    · obtain ⟨x, hx⟩ : ∃ x, (strL s)[2 * k]? = some x := ⟨_, List.getElem?_eq_getElem (by rw [HL.out]; omega)⟩
      obtain ⟨y, hy⟩ : ∃ x, (strL s)[2 * k + 1]? = some x := ⟨_, List.getElem?_eq_getElem (by rw [HL.out]; omega)⟩
      have hw1 : IntKind.i64.wrap (2 * (k : Int)) = 2 * (k : Int) := i64_in_ _ (by omega)
      have hw2 : IntKind.i64.wrap (2 * (k : Int) + 1) = 2 * (k : Int) + 1 := i64_in_ _ (by omega)
      have hix := run_index_strL (P := Try.prog) Try.underlying9 hx (2 * (k : Int)) (by omega)
      have hiy := run_index_strL (P := Try.prog) Try.underlying9 hy (2 * (k : Int) + 1) (by omega)
      have hdec : decAt (strL s) k = byteOf (hexv x) (hexv y) := by unfold decAt; rw [List.getD_eq_getElem?_getD, hx, List.getD_eq_getElem?_getD, hy]; rfl
      have Hdec := Lib.hid hdec
      have Hx := Lib.hid hx
      have Hy := Lib.hid hy
      clear hdec hx hy
      have hlx := hexv_le x
      have hly := hexv_le y
      by_cases hxy : hexv x < 16 ∧ hexv y < 16
      · obtain ⟨hx16, hy16⟩ := hxy
        have hj := byte_sum (hexv x) (hexv y) hx16 hy16
        have hrx := refHexv_lt x hx16
        have hry := refHexv_lt y hy16
        obtain ⟨z, hz⟩ : ∃ x, (partOf (strL s) k)[k]? = some x := ⟨_, List.getElem?_eq_getElem (by rw [partOf_length hk]; exact hlt)⟩
        have hcell : wr.cell? ⟨w.heap.size + 1, k, none⟩ = some (encB z) := (hc2.cell k).trans (arr_at hz)
        have hfr := hc2.frozen k
        have hk32 : (k : Int) < 32 := by omega
        have hwj : IntKind.i64.wrap (16 * (hexv x : Int)) = 16 * (hexv x : Int) := i64_in_ _ (by omega)
        clear hz
        go_wp2_with (go_at_call 25; refine (refDigit_any _ _).mono ?_; rintro e w' ⟨rfl, rfl⟩)
        go_roundw
        case rel =>
          refine ⟨k + 1, by omega, by go_num, fun i hi => ?_, hc1.far (by show w.heap.size ≠ w.heap.size + 1; omega) _, ?_, hBr.setCell (by show w.heap.size ≤ w.heap.size + 1; omega) _⟩
          · rcases Nat.lt_or_ge i (2 * k) with h | h
            · exact Hgood.out i h
            · rw [List.getD_eq_getElem?_getD]
              rcases (show i = 2 * k ∨ i = 2 * k + 1 from by omega) with rfl | rfl
              · rw [Hx.out]; exact hx16
              · rw [Hy.out]; exact hy16
          · have h2 := hc2.set_ k (encB (decAt (strL s) k))
            rw [arr_set, partOf_set hlt, Hdec.out] at h2
            exact h2
        case measure => simp [intOf]; omega
      · have hno : hexOk (strL s) = false := by
          rcases Nat.lt_or_ge (hexv x) 16 with h | h
          · exact hexOk_no Hy.out (by omega)
          · exact hexOk_no Hx.out h
        have e1 : unhexT (strL s) = zero32 := by unfold unhexT; rw [hno]; rfl
        have e2 : unhexE (strL s) = 11 := by unfold unhexE; rw [hno]; rfl
        have E1 := Lib.hid e1
        have E2 := Lib.hid e2
        clear e1 e2 hno
        have hk32 : (k : Int) < 32 := by omega
        by_cases hx16 : hexv x < 16
        · have hrx := refHexv_lt x hx16
          have hry := refHexv_no y (fun h => hxy ⟨hx16, h⟩)
          clear hxy
          obtain ⟨w0, hw0⟩ : ∃ w0 : World, w0 = wr.alloc (.cells (arr encB zero32) 31) := ⟨_, rfl⟩
          have hb8 : Blk w0 wr.heap.size 31 (arr encB zero32) := by rw [hw0]; exact Blk.new wr _ _
          have hc0 : Blk w0 w.heap.size 31 (arr encB zero32) := by rw [hw0]; exact hc1.alloc _
          have hB0 : Below w.heap.size w w0 := by rw [hw0]; exact hBr.alloc hsr _
          go_wp2_with (first | (go_at_call 25; refine (refDigit_any _ _).mono ?_; rintro e w' ⟨rfl, rfl⟩) | ((with_reducible refine wpList_load_blk rfl 31 (.tmp 8) rfl wr.heap.size 31 (arr encB zero32) ?hb rfl arrTy rfl (arrSz zero32_len) ?_); case hb => (rw [← hw0]; exact hb8)) | ((with_reducible refine wpList_store_blk rfl 31 (.tmp 2) (.tmp 34) rfl w.heap.size 31 (arr encB zero32) (arr encB zero32) ?hb rfl rfl (arrSz zero32_len) rfl (arr_one encB_one _) ?_); case hb => (rw [← hw0]; exact hc0)); intro w1 hb3 hg3 hs3)
          rw [← hw0] at hg3
          refine bodyPost_cell_tmp rfl w.heap.size 31 (arr encB zero32) (0, 0) _ rfl hb3 arrTy rfl (arrSz zero32_len) rfl ?_
          exact ⟨by rw [E1.out, E2.out]; rfl, below_only hB0 hg3 hB0.size (Nat.le_refl _)⟩
        · have hrx := refHexv_no x hx16
          clear hxy
          obtain ⟨w0, hw0⟩ : ∃ w0 : World, w0 = wr.alloc (.cells (arr encB zero32) 31) := ⟨_, rfl⟩
          have hb8 : Blk w0 wr.heap.size 31 (arr encB zero32) := by rw [hw0]; exact Blk.new wr _ _
          have hc0 : Blk w0 w.heap.size 31 (arr encB zero32) := by rw [hw0]; exact hc1.alloc _
          have hB0 : Below w.heap.size w w0 := by rw [hw0]; exact hBr.alloc hsr _
          go_wp2_with (first | (go_at_call 25; refine (refDigit_any _ _).mono ?_; rintro e w' ⟨rfl, rfl⟩) | ((with_reducible refine wpList_load_blk rfl 31 (.tmp 8) rfl wr.heap.size 31 (arr encB zero32) ?hb rfl arrTy rfl (arrSz zero32_len) ?_); case hb => (rw [← hw0]; exact hb8)) | ((with_reducible refine wpList_store_blk rfl 31 (.tmp 2) (.tmp 34) rfl w.heap.size 31 (arr encB zero32) (arr encB zero32) ?hb rfl rfl (arrSz zero32_len) rfl (arr_one encB_one _) ?_); case hb => (rw [← hw0]; exact hc0)); intro w1 hb3 hg3 hs3)
          rw [← hw0] at hg3
          refine bodyPost_cell_tmp rfl w.heap.size 31 (arr encB zero32) (0, 0) _ rfl hb3 arrTy rfl (arrSz zero32_len) rfl ?_
          exact ⟨by rw [E1.out, E2.out]; rfl, below_only hB0 hg3 hB0.size (Nat.le_refl _)⟩
    · obtain rfl : k = 32 := by omega
      have hok : hexOk (strL s) = true := hexOk_yes HL.out fun i hi => Hgood.out i (by omega)
      have e1 : unhexT (strL s) = partOf (strL s) 32 := by unfold unhexT; rw [hok, partOf_all]; rfl
      have e2 : unhexE (strL s) = 0 := by unfold unhexE; rw [hok]; rfl
      have E1 := Lib.hid e1
      have E2 := Lib.hid e2
      clear e1 e2 hok
      have hpl := partOf_length (l := strL s) hk
      have Hpl := Lib.hid hpl
      clear hpl
      go_wp2_with (first | ((with_reducible refine wpList_load_blk rfl 31 (.tmp 4) rfl (w.heap.size + 1) 31 (arr encB (partOf (strL s) 32)) ?hb rfl arrTy rfl (arrSz Hpl.out) ?_); case hb => exact hc2) | ((with_reducible refine wpList_store_blk rfl 31 (.tmp 2) (.tmp 42) rfl w.heap.size 31 (arr encB zero32) (arr encB (partOf (strL s) 32)) ?hb rfl rfl (arrSz Hpl.out) (by rw [arr_size, arr_size, Hpl.out, zero32_len]) (arr_one encB_one _) ?_); case hb => exact hc1); intro w1 hb3 hg3 hs3)
      refine bodyPost_cell_tmp rfl w.heap.size 31 (arr encB (partOf (strL s) 32)) (0, 0) _ rfl hb3 arrTy rfl (arrSz Hpl.out) rfl ?_
      exact ⟨by rw [E1.out, E2.out]; rfl, below_only hBr hg3 hsr (Nat.le_refl _)⟩
set_option maxRecDepth 20000 in
set_option maxHeartbeats 2000000 in
theorem refHex_any (l : List UInt8) (w : World) (hl : l.length = 32) :
    Calls Try.prog 18 #[.agg (arr encB l)] w fun e w' => e = .returned (.string (strOf (hexOf l))) ∧ Below w.heap.size w w' := by
  have hb0 : Blk (w.alloc (.cells (arr encB l) 31)) w.heap.size 31 (arr encB l) := Blk.new w _ _
  have B0 := (Below.refl w.heap.size w).alloc (Nat.le_refl _) (.cells (arr encB l) 31)
  have Hl := Lib.hid hl
  clear hl
  go_enter Try.func18, Try.ntmps18
  go_wp2
  go_loopw [3, 4] (fun v i wr => ∃ k : Nat, k ≤ 32 ∧ i = .int .i64 k ∧ Blk wr w.heap.size 31 (arr encB l) ∧ Own encB 5 wr (w.heap.size + 1) v (hexOf (l.take k)) ∧ Below w.heap.size w wr ∧ w.heap.size + 1 ≤ wr.heap.size) (fun _ i _ => 32 - (intOf i).toNat)
  case atStart => exact ⟨0, by omega, rfl, hb0, Own.nil_ _ _ _ _, B0, by simp⟩
  case round =>
    obtain ⟨k, hk, rfl, hb, hown, hB, hs1⟩ := hrel
    clear hb0 B0
    by_cases hlt : k < 32
    · obtain ⟨b, hx⟩ : ∃ x, l[k]? = some x := ⟨_, List.getElem?_eq_getElem (by rw [Hl.out]; exact hlt)⟩
      have hc : wr.cell? ⟨w.heap.size, k, none⟩ = some (encB b) := (hb.cell k).trans (arr_at hx)
      have hd1 := run_hexd (P := Try.prog) Try.underlying9 (b >>> 4) (shr4_lt b)
      have hd2 := run_hexd (P := Try.prog) Try.underlying9 (b &&& 15) (and15_lt b)
      have hq0 : (vB b).tdiv (16 : Int) = vB (b >>> 4) := by rw [Int.tdiv_eq_ediv_of_nonneg (vB_rng b).1]; exact vB_shr4 b
      have hm0 : (vB b).tmod (16 : Int) = vB (b &&& 15) := by rw [Int.tmod_eq_emod_of_nonneg (vB_rng b).1]; exact vB_and15 b
      have hq : IntKind.u8.wrap (vB (b >>> 4)) = vB (b >>> 4) := by rw [IntKind.wrap_u8]; have := vB_rng (b >>> 4); omega
      have hm : IntKind.u8.wrap (vB (b &&& 15)) = vB (b &&& 15) := by rw [IntKind.wrap_u8]; have := vB_rng (b &&& 15); omega
      have Hx := Lib.hid hx
      clear hx
      have hlen : (hexOf (l.take k)).length = 2 * k := by rw [hexOf_length, List.length_take, Hl.out]; omega
      have Hlen := Lib.hid hlen
      clear hlen
      have hlt1 : (k : Int) < 32 := by omega
      go_wp2
      go_region_held3 (fun w' => w'.cell? ⟨w.heap.size, k, none⟩ = some (encB b)) (first | go_keep | assumption) ((refine step_appendO _ bTy encB_one (by rfl) (.tmp 9) (.tmp 20) (by rfl) (w.heap.size + 1) _ (hexOf (l.take k)) [hexd (b >>> 4), hexd (b &&& 15)] (by rfl) (by exact (hown.drewN 1).alloc _) (some ⟨wr.heap.size, 0, none⟩) 2 (by rfl) (by exact Rd.two encB wr.drew 5 _ _) (by rw [Hlen.out]; simp [maxLen]; omega) (by rw [Hlen.out]; simp; omega) (by have := hB.size; simp; omega) ?_; intro v1 w1 hown1 hg1 hloc1; have hk1 : w1.cell? ⟨w.heap.size, k, none⟩ = some (encB b) := ((((hb.drewN 1).alloc _).grown hg1 (fun h => by have := hown.lt _ h.symm; omega)).cell k).trans (arr_at Hx.out)))
      go_goals
      all_goals
        go_wp2
        go_roundw
        case rel =>
          have hne : some w.heap.size ≠ _ := fun h => by have := hown.lt _ h.symm; omega
          exact ⟨k + 1, by omega, by go_num, ((hb.drewN 1).alloc _).grown hg1 hne, by rw [take_snoc_ Hx.out, hexOf_snoc]; exact hown1, below_own (((below_drewN hB 1).alloc hB.size _)) ((hown.drewN 1).alloc _) (by omega) hg1 (by have := hB.size; simp; omega), by have := hg1.size; simp at this; omega⟩
        case measure => simp [intOf]; omega
    · obtain rfl : k = 32 := by omega
      rw [List.take_of_length_le (by rw [Hl.out]; omega)] at hown
      have hst := run_str (P := Try.prog) Try.underlying23 Try.underlying5 Try.underlying9 hown
      go_wp2
      go_ret
      exact ⟨rfl, hB⟩
end Go.Proofs.Ytepikbmlhejobaa
