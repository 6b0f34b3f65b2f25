/- Digests read from text: digest.Unhex, the document's Hex and Unhex, by contract. -/
import Derived.Test.YtepikbmlhejobaaHex
namespace Go.Proofs.Ytepikbmlhejobaa
open Go.RowKit
attribute [local go_sem] u8_and15_ vB_shr4

/-- a hexadecimal digit's value; 16: it is none -/
def hexv (c : UInt8) : Nat := if 48 ≤ c.toNat ∧ c.toNat ≤ 57 then c.toNat - 48 else if 97 ≤ c.toNat ∧ c.toNat ≤ 102 then c.toNat - 87 else if 65 ≤ c.toNat ∧ c.toNat ≤ 70 then c.toNat - 55 else 16
theorem hexv_le (c : UInt8) : hexv c ≤ 16 := by unfold hexv; (repeat' split) <;> omega

set_option maxRecDepth 20000 in
set_option maxHeartbeats 1000000 in
theorem digit_any (c : UInt8) (w : World) : Calls Try.prog 24 #[encB c] w fun e w' => e = .returned (.int .u8 (hexv c : Nat)) ∧ w = w' := by
  obtain ⟨h0, h1⟩ := vB_rng c
  have hv : vB c = (c.toNat : Int) := rfl
  have Hv := Lib.hid hv
  clear hv
  by_cases a1 : 48 ≤ vB c ∧ vB c ≤ 57
  · obtain ⟨a1, a2⟩ := a1
    have e : vB c - 48 = (hexv c : Int) := by have := Hv.out; unfold hexv; rw [if_pos (by omega)]; omega
    have E := Lib.hid e
    clear e
    go_enter Try.func24, Try.ntmps24
    go_wp2
    go_ret
    exact ⟨ret_inj E.out, rfl⟩
  by_cases a2 : 97 ≤ vB c ∧ vB c ≤ 102
  · obtain ⟨a2, a3⟩ := a2
    have b1 : ¬ vB c ≤ 57 := by omega
    have e : vB c - 97 + 10 = (hexv c : Int) := by have := Hv.out; unfold hexv; rw [if_neg (by omega), if_pos (by omega)]; omega
    have E := Lib.hid e
    clear e a1
    go_enter Try.func24, Try.ntmps24
    go_wp2
    go_ret
    exact ⟨ret_inj E.out, rfl⟩
  by_cases a3 : 65 ≤ vB c ∧ vB c ≤ 70
  · obtain ⟨a3, a4⟩ := a3
    have b1 : ¬ vB c ≤ 57 := by omega
    have b2 : ¬ 97 ≤ vB c := by omega
    have e : vB c - 65 + 10 = (hexv c : Int) := by have := Hv.out; unfold hexv; rw [if_neg (by omega), if_neg (by omega), if_pos (by omega)]; omega
    have E := Lib.hid e
    clear e a1 a2
    go_enter Try.func24, Try.ntmps24
    go_wp2
    go_ret
    exact ⟨ret_inj E.out, rfl⟩
  have e : hexv c = 16 := by have := Hv.out; unfold hexv; rw [if_neg (by omega), if_neg (by omega), if_neg (by omega)]
  rw [e]
  clear e
  by_cases c1 : 48 ≤ vB c <;> by_cases c2 : 97 ≤ vB c <;> by_cases c3 : 65 ≤ vB c
  all_goals first | (exfalso; omega) | skip
  all_goals
    first | (have d1 : ¬ vB c ≤ 57 := by omega) | skip
    first | (have d2 : ¬ vB c ≤ 102 := by omega) | skip
    first | (have d3 : ¬ vB c ≤ 70 := by omega) | skip
    clear a1 a2 a3
    go_enter Try.func24, Try.ntmps24
    go_wp2
    go_ret
    exact ⟨rfl, rfl⟩
/-- the document's: -1: it is none -/
def refHexv (c : UInt8) : Int := if hexv c = 16 then -1 else hexv c
set_option maxRecDepth 20000 in
set_option maxHeartbeats 1000000 in
theorem refDigit_any (c : UInt8) (w : World) : Calls Try.prog 25 #[encB c] w fun e w' => e = .returned (.int .i64 (refHexv c)) ∧ w = w' := by
  obtain ⟨h0, h1⟩ := vB_rng c
  have hv : vB c = (c.toNat : Int) := rfl
  have Hv := Lib.hid hv
  clear hv
  by_cases a1 : 48 ≤ vB c ∧ vB c ≤ 57
  · obtain ⟨a1, a2⟩ := a1
    have e : vB c - 48 = refHexv c := by have := Hv.out; unfold refHexv hexv; (repeat' split) <;> omega
    have E := Lib.hid e
    clear e
    go_enter Try.func25, Try.ntmps25
    go_wp2
    go_ret
    exact ⟨ret_inj E.out, rfl⟩
  by_cases a2 : 97 ≤ vB c ∧ vB c ≤ 102
  · obtain ⟨a2, a3⟩ := a2
    have b1 : ¬ vB c ≤ 57 := by omega
    have e : vB c - 97 + 10 = refHexv c := by have := Hv.out; unfold refHexv hexv; (repeat' split) <;> omega
    have E := Lib.hid e
    clear e a1
    go_enter Try.func25, Try.ntmps25
    go_wp2
    go_ret
    exact ⟨ret_inj E.out, rfl⟩
  by_cases a3 : 65 ≤ vB c ∧ vB c ≤ 70
  · obtain ⟨a3, a4⟩ := a3
    have b1 : ¬ vB c ≤ 57 := by omega
    have b2 : ¬ 97 ≤ vB c := by omega
    have e : vB c - 65 + 10 = refHexv c := by have := Hv.out; unfold refHexv hexv; (repeat' split) <;> omega
    have E := Lib.hid e
    clear e a1 a2
    go_enter Try.func25, Try.ntmps25
    go_wp2
    go_ret
    exact ⟨ret_inj E.out, rfl⟩
  have e : refHexv c = -1 := by have := Hv.out; unfold refHexv hexv; (repeat' split) <;> omega
  rw [e]
  clear e
  by_cases c1 : 48 ≤ vB c <;> by_cases c2 : 97 ≤ vB c <;> by_cases c3 : 65 ≤ vB c
  all_goals first | (exfalso; omega) | skip
  all_goals
    first | (have d1 : ¬ vB c ≤ 57 := by omega) | skip
    first | (have d2 : ¬ vB c ≤ 102 := by omega) | skip
    first | (have d3 : ¬ vB c ≤ 70 := by omega) | skip
    clear a1 a2 a3
    go_enter Try.func25, Try.ntmps25
    go_wp2
    go_ret
    exact ⟨rfl, rfl⟩

/-- a text's bytes -/
def strL (s : ByteArray) : List UInt8 := s.data.toList
theorem strL_length (s : ByteArray) : (strL s).length = s.size := by simp [strL]
/-- the byte that two digits give, and all of them -/
def byteOf (a b : Nat) : UInt8 := UInt8.ofNat (16 * a + b)
def decAt (l : List UInt8) (i : Nat) : UInt8 := byteOf (hexv (l.getD (2 * i) 0)) (hexv (l.getD (2 * i + 1) 0))
def decOf (l : List UInt8) : List UInt8 := (List.range 32).map (decAt l)
/-- 64 digits -/
def hexOk (l : List UInt8) : Bool := l.length == 64 && l.all fun c => decide (hexv c < 16)
def zero32 : List UInt8 := List.replicate 32 0
/-- what Unhex answers to these bytes -/
def unhexT (l : List UInt8) : List UInt8 := if hexOk l then decOf l else zero32
def unhexE (l : List UInt8) : Int := if hexOk l then 0 else 11
theorem unhexT_length (l : List UInt8) : (unhexT l).length = 32 := by unfold unhexT; split <;> simp [decOf, zero32]
theorem decOf_get {l : List UInt8} {k : Nat} (hk : k < 32) : (decOf l)[k]? = some (decAt l k) := by simp [decOf, hk]
theorem hexOk_no {l : List UInt8} {i : Nat} {c : UInt8} (hi : l[i]? = some c) (h : 16 ≤ hexv c) : hexOk l = false := by
  unfold hexOk
  rw [Bool.and_eq_false_iff]
  right
  rw [List.all_eq_false]
  exact ⟨c, List.mem_of_getElem? hi, by simp; omega⟩
theorem hexOk_len {l : List UInt8} (h : l.length ≠ 64) : hexOk l = false := by
  unfold hexOk
  rw [Bool.and_eq_false_iff]
  left
  exact beq_eq_false_iff_ne.2 h
theorem hexOk_yes {l : List UInt8} (h : l.length = 64) (h2 : ∀ i, i < 64 → hexv (l.getD i 0) < 16) : hexOk l = true := by
  unfold hexOk
  rw [Bool.and_eq_true, beq_iff_eq, List.all_eq_true]
  refine ⟨h, fun c hc => ?_⟩
  obtain ⟨i, hi, rfl⟩ := List.getElem_of_mem hc
  have := h2 i (by omega)
  rw [List.getD_eq_getElem?_getD, List.getElem?_eq_getElem hi] at this
  exact decide_eq_true this
theorem byte_join (a b : Nat) (ha : a < 16) (hb : b < 16) : bits .or .u8 ((a : Int) * 16) (b : Int) = vB (byteOf a b) := by
  have h : ∀ (x y : Fin 16), bits .or .u8 (((x.1 : Nat) : Int) * 16) ((y.1 : Nat) : Int) = vB (UInt8.ofNat (16 * x.1 + y.1)) := by decide +kernel
  exact h ⟨a, ha⟩ ⟨b, hb⟩
/-- a result that is an array, and an error -/
def UnPost (l : List UInt8) (w : World) (e : Ending) (w' : World) : Prop := e = .returned (.tuple #[.agg (arr encB (unhexT l)), .int .i64 (unhexE l)]) ∧ Below w.heap.size w w'

theorem zeroArr (W : World) : (zeroValue 31).run Try.prog W = .ok (.agg (arr encB zero32)) W := by kernel_rfl
theorem builtArr : Try.prog.built 31 [] = some (arr encB zero32) := by kernel_rfl
theorem wpList_build_zero {ops : Array Oper} {rest : List Oper} {o : Oper} {a : Act} {w : World} {Q : Exit → Act → World → Prop} (hg : o.guard = none) (ho : o.op = .build 31 #[])
    (h : wpList Try.prog ops Q rest (a.put o.dst (.agg (arr encB zero32))) w) : wpList Try.prog ops Q (o :: rest) a w :=
  wpList_build hg 31 #[] ho (by simp [builtArr]) (by simpa [builtArr] using h)
theorem zero32_len : zero32.length = 32 := by simp [zero32]
/-- two new arrays of zeroes -/
theorem two_blks (w : World) : ∃ W, W = (w.alloc (.cells (arr encB zero32) 31)).alloc (.cells (arr encB zero32) 31) ∧ Blk W w.heap.size 31 (arr encB zero32) ∧ Blk W (w.heap.size + 1) 31 (arr encB zero32) ∧ Below w.heap.size w W ∧ W.heap.size = w.heap.size + 2 :=
  ⟨_, rfl, (Blk.new w _ _).alloc _, by have := Blk.new (w.alloc (.cells (arr encB zero32) 31)) 31 (arr encB zero32); rwa [World.size_alloc] at this, ((Below.refl w.heap.size w).alloc (Nat.le_refl _) _).alloc (by simp) _, by simp⟩
/-- the first k bytes, the others zero -/
def partOf (l : List UInt8) (k : Nat) : List UInt8 := (decOf l).take k ++ List.replicate (32 - k) 0
theorem partOf_length {l : List UInt8} {k : Nat} (hk : k ≤ 32) : (partOf l k).length = 32 := by simp [partOf, decOf]; omega
theorem partOf_zero (l : List UInt8) : partOf l 0 = zero32 := by simp [partOf, zero32]
theorem partOf_all (l : List UInt8) : partOf l 32 = decOf l := by rw [partOf, List.take_of_length_le (by simp [decOf])]; simp
theorem partOf_set {l : List UInt8} {k : Nat} (hk : k < 32) : (partOf l k).set k (decAt l k) = partOf l (k + 1) := by
  have hl : ((decOf l).take k).length = k := by simp [decOf]; omega
  unfold partOf
  rw [List.set_append_right _ _ (by omega), hl, Nat.sub_self, show 32 - k = (32 - (k + 1)) + 1 from by omega, List.replicate_succ, List.set_cons_zero, take_snoc_ (decOf_get hk), List.append_assoc]
  rfl
set_option maxRecDepth 20000 in
set_option maxHeartbeats 4000000 in
theorem unhex_any (s : ByteArray) (w : World) : Calls Try.prog 16 #[.string s] w (UnPost (strL s) w) := by
  have hz := zeroArr
  by_cases hlen : s.size = 64
  case neg =>
    have e1 : unhexT (strL s) = zero32 := by unfold unhexT; rw [hexOk_len (by rw [strL_length]; exact hlen)]; rfl
    have e2 : unhexE (strL s) = 11 := by unfold unhexE; rw [hexOk_len (by rw [strL_length]; exact hlen)]; rfl
    have h1 : ((s.size : Int) != 64) = true := by rw [bne_iff_ne]; omega
    have E1 := Lib.hid e1
    have E2 := Lib.hid e2
    clear e1 e2 hlen
    go_enter Try.func16, Try.ntmps16
    obtain ⟨W, hW, hb1, hb2, hB, hsz⟩ := two_blks w
    go_wp2_with (first | ((with_reducible refine wpList_load_blk rfl 31 (.tmp 4) rfl (w.heap.size + 1) 31 (arr encB zero32) ?hb rfl arrTy rfl (arrSz zero32_len) ?_); case hb => (rw [← hW]; exact hb2)) | ((with_reducible refine wpList_store_blk rfl 31 (.tmp 2) (.tmp 11) rfl w.heap.size 31 (arr encB zero32) (arr encB zero32) ?hb rfl rfl (arrSz zero32_len) rfl (arr_one encB_one _) ?_); case hb => (rw [← hW]; exact hb1)); intro w1 hb3 hg3 hs3)
    rw [← hW] at hg3
    refine bodyPost_cell_tmp rfl w.heap.size 31 (arr encB zero32) (0, 0) _ rfl hb3 arrTy rfl (arrSz zero32_len) rfl ?_
    exact ⟨by rw [E1.out, E2.out]; rfl, below_only hB hg3 (by omega) (Nat.le_refl _)⟩
  have h1 : ((s.size : Int) != 64) = false := by rw [bne_eq_false_iff_eq]; omega
  have hL : (strL s).length = 64 := by rw [strL_length]; exact hlen
  have HL := Lib.hid hL
  obtain ⟨W, hW, hb1, hb2, hB, hsz⟩ := two_blks w
  clear hlen hL
  go_enter Try.func16, Try.ntmps16
  go_wp2_with fail
  rw [← hW]
  clear hW
  go_loopw [12] (fun c wr => ∃ k : Nat, k ≤ 32 ∧ c = .int .i64 k ∧ (∀ i, i < 2 * k → hexv ((strL s).getD i 0) < 16) ∧ Blk wr w.heap.size 31 (arr encB zero32) ∧ Blk wr (w.heap.size + 1) 31 (arr encB (partOf (strL s) k)) ∧ Below w.heap.size w wr) (fun c _ => 32 - (intOf c).toNat)
  case atStart => exact ⟨0, by omega, rfl, fun i hi => by omega, hb1, by rw [partOf_zero]; exact hb2, hB⟩
  case round =>
    obtain ⟨k, hk, rfl, hgood, hc1, hc2, hBr⟩ := hrel
    have Hgood := Lib.hid hgood
    clear hgood hb1 hb2 hB hz
    have hsr := hBr.size
    by_cases hlt : k < 32
    · obtain ⟨x, hx⟩ : ∃ x, (strL s)[2 * k]? = some x := ⟨_, List.getElem?_eq_getElem (by rw [HL.out]; omega)⟩
      obtain ⟨y, hy⟩ : ∃ x, (strL s)[2 * k + 1]? = some x := ⟨_, List.getElem?_eq_getElem (by rw [HL.out]; omega)⟩
      have hw1 : IntKind.i64.wrap (2 * (k : Int)) = 2 * (k : Int) := i64_in_ _ (by omega)
      have hw2 : IntKind.i64.wrap (2 * (k : Int) + 1) = 2 * (k : Int) + 1 := i64_in_ _ (by omega)
      have hix := run_index_strL (P := Try.prog) Try.underlying9 hx (2 * (k : Int)) (by omega)
      have hiy := run_index_strL (P := Try.prog) Try.underlying9 hy (2 * (k : Int) + 1) (by omega)
      have hdec : decAt (strL s) k = byteOf (hexv x) (hexv y) := by unfold decAt; rw [List.getD_eq_getElem?_getD, hx, List.getD_eq_getElem?_getD, hy]; rfl
      have Hdec := Lib.hid hdec
      have Hx := Lib.hid hx
      have Hy := Lib.hid hy
      clear hdec hx hy
      have hlx := hexv_le x
      have hly := hexv_le y
      by_cases hxy : hexv x < 16 ∧ hexv y < 16
      · obtain ⟨hx16, hy16⟩ := hxy
        have hj := byte_join (hexv x) (hexv y) hx16 hy16
        obtain ⟨z, hz⟩ : ∃ x, (partOf (strL s) k)[k]? = some x := ⟨_, List.getElem?_eq_getElem (by rw [partOf_length hk]; exact hlt)⟩
        have hcell : wr.cell? ⟨w.heap.size + 1, k, none⟩ = some (encB z) := (hc2.cell k).trans (arr_at hz)
        have hfr := hc2.frozen k
        have hk32 : (k : Int) < 32 := by omega
        clear hz
        go_wp2
        go_quiet ((go_at_call 24; exact quiet_left (digit_any _ _)))
        go_wp2
        go_roundw
        case rel =>
          refine ⟨k + 1, by omega, by go_num, fun i hi => ?_, (hc1.drewN _).far (by show w.heap.size ≠ w.heap.size + 1; omega) _, ?_, (below_drewN hBr _).setCell (by show w.heap.size ≤ w.heap.size + 1; omega) _⟩
          · rcases Nat.lt_or_ge i (2 * k) with h | h
            · exact Hgood.out i h
            · rw [List.getD_eq_getElem?_getD]
              rcases (show i = 2 * k ∨ i = 2 * k + 1 from by omega) with rfl | rfl
              · rw [Hx.out]; exact hx16
              · rw [Hy.out]; exact hy16
          · have h2 := (hc2.drewN 1).set_ k (encB (decAt (strL s) k))
            rw [arr_set, partOf_set hlt, Hdec.out] at h2
            exact h2
        case measure => simp [intOf]; omega
      · have hno : hexOk (strL s) = false := by
          rcases Nat.lt_or_ge (hexv x) 16 with h | h
          · exact hexOk_no Hy.out (by omega)
          · exact hexOk_no Hx.out h
        have e1 : unhexT (strL s) = zero32 := by unfold unhexT; rw [hno]; rfl
        have e2 : unhexE (strL s) = 11 := by unfold unhexE; rw [hno]; rfl
        have E1 := Lib.hid e1
        have E2 := Lib.hid e2
        clear e1 e2 hno
        have hk32 : (k : Int) < 32 := by omega
        have hor : (hexv x : Int) > 15 ∨ ((hexv x : Int) ≤ 15 ∧ (hexv y : Int) > 15) := by omega
        clear hxy
        rcases hor with g1 | ⟨g1, g2⟩
        all_goals
          go_wp2
          go_quiet ((go_at_call 24; exact quiet_left (digit_any _ _)))
          go_wp2_with (first | ((with_reducible refine wpList_build_zero rfl rfl ?_)) | ((with_reducible refine wpList_store_blk rfl 31 (.tmp 2) (.tmp 32) rfl w.heap.size 31 (arr encB zero32) (arr encB zero32) ?hb rfl rfl (arrSz zero32_len) rfl (arr_one encB_one _) ?_); case hb => (exact hc1.drewN _)); intro w1 hb3 hg3 hs3)
          refine bodyPost_cell_tmp rfl w.heap.size 31 (arr encB zero32) (0, 0) _ rfl hb3 arrTy rfl (arrSz zero32_len) rfl ?_
          exact ⟨by rw [E1.out, E2.out]; rfl, below_only (below_drewN hBr _) hg3 (by show w.heap.size ≤ wr.heap.size; omega) (Nat.le_refl _)⟩
    · obtain rfl : k = 32 := by omega
      have hok : hexOk (strL s) = true := hexOk_yes HL.out fun i hi => Hgood.out i (by omega)
      have e1 : unhexT (strL s) = partOf (strL s) 32 := by unfold unhexT; rw [hok, partOf_all]; rfl
      have e2 : unhexE (strL s) = 0 := by unfold unhexE; rw [hok]; rfl
      have E1 := Lib.hid e1
      have E2 := Lib.hid e2
      clear e1 e2 hok
      have hpl := partOf_length (l := strL s) hk
      have Hpl := Lib.hid hpl
      clear hpl
      go_wp2_with (first | ((with_reducible refine wpList_load_blk rfl 31 (.tmp 4) rfl (w.heap.size + 1) 31 (arr encB (partOf (strL s) 32)) ?hb rfl arrTy rfl (arrSz Hpl.out) ?_); case hb => exact hc2) | ((with_reducible refine wpList_store_blk rfl 31 (.tmp 2) (.tmp 40) rfl w.heap.size 31 (arr encB zero32) (arr encB (partOf (strL s) 32)) ?hb rfl rfl (arrSz Hpl.out) (by rw [arr_size, arr_size, Hpl.out, zero32_len]) (arr_one encB_one _) ?_); case hb => exact hc1); intro w1 hb3 hg3 hs3)
      refine bodyPost_cell_tmp rfl w.heap.size 31 (arr encB (partOf (strL s) 32)) (0, 0) _ rfl hb3 arrTy rfl (arrSz Hpl.out) rfl ?_
      exact ⟨by rw [E1.out, E2.out]; rfl, below_only hBr hg3 hsr (Nat.le_refl _)⟩
end Go.Proofs.Ytepikbmlhejobaa
