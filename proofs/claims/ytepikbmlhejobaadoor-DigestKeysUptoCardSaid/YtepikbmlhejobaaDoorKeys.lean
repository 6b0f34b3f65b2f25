/- DigestKeys: the keyed digest by the program's own Sum256. -/
import Derived.Test.YtepikbmlhejobaaDoorJoin
import Derived.Test.YtepikbmlhejobaaDoorUpTo
import Derived.Test.YtepikbmlhejobaaDoorShaPub
namespace Go.Proofs.YtepikbmlhejobaaDoor
open Go.RowKit
attribute [local go_sem] u8_xor54 u8_xor92
theorem copied_k (A : Option Addr) (c n : Nat) (l : List UInt8) (w : World) (hl : l.length = n) (hn : n ≤ 140737488355328) (h : Rd encB w A l) :
    Calls Tryd.prog 26 #[.slice A n c] w fun e w' => ∃ A' c', e = .returned (.slice A' n c') ∧ Own encB 5 w' w.heap.size (.slice A' n c') l ∧ n ≤ c' ∧ c' ≤ 9223372036854775807 ∧ Below w.heap.size w w' :=
  (copied_n A c n l w hl hn h).mono fun e w' ⟨v, he, ov, hB⟩ => by
    subst he
    rcases ov.form with ⟨e, e2⟩ | ⟨g, cap, cs, e, hg, _, hle, hm, _⟩
    · subst e2
      subst e
      subst hl
      exact ⟨none, 0, rfl, ov, Nat.le_refl _, by omega, hB⟩
    · subst e
      subst hl
      unfold maxLen at hm
      exact ⟨_, cap, rfl, ov, hle, hm, hB⟩
theorem join_k (A B : Option Addr) (c d n m s : Nat) (l k : List UInt8) (w : World) (hl : l.length = n) (hk : k.length = m) (hs : n + m = s) (hn : s ≤ 140737488355328) (h : Rd encB w A l) (h' : Rd encB w B k) :
    Calls Tryd.prog 31 #[.slice A n c, .slice B m d] w fun e w' => ∃ A' c', e = .returned (.slice A' s c') ∧ Own encB 5 w' w.heap.size (.slice A' s c') (l ++ k) ∧ s ≤ c' ∧ c' ≤ 9223372036854775807 ∧ Below w.heap.size w w' :=
  (join_n A B c d n m l k w hl hk (by omega) h h').mono fun e w' ⟨v, he, ov, hB⟩ => by
    subst he
    have hlen : (l ++ k).length = s := by rw [List.length_append, hl, hk, hs]
    rcases ov.form with ⟨e, e2⟩ | ⟨g, cap, cs, e, hg, _, hle, hm, _⟩
    · rw [e2] at hlen
      subst e
      rw [show s = 0 from hlen.symm]
      exact ⟨none, 0, rfl, ov, Nat.le_refl _, by omega, hB⟩
    · subst e
      rw [hlen] at ov hle ⊢
      unfold maxLen at hm
      exact ⟨_, cap, rfl, ov, hle, hm, hB⟩
theorem keyL_long (ks : List UInt32) (s0 : S8) (key : List UInt8) (h : 64 < key.length) : keyL ks s0 (digestL ks s0 key) = keyL ks s0 key := by
  unfold keyL
  rw [if_pos h, if_neg (by rw [digestL_len]; omega)]
theorem keyL_zero (ks : List UInt32) (s0 : S8) (key : List UInt8) (h : key.length < 64) : keyL ks s0 (key ++ [0]) = keyL ks s0 key := by
  unfold keyL
  rw [if_neg (by rw [List.length_append]; simp; omega), if_neg (by omega)]
  simp only [List.length_append, List.length_singleton]
  rw [List.append_assoc, show 64 - key.length = (64 - (key.length + 1)) + 1 by omega, List.replicate_succ]
  rfl
def sliceLen : Value → Nat
  | .slice _ n _ => n
  | _ => 0
theorem macL_key {ks : List UInt32} {s0 : S8} {k k' : List UInt8} (h : keyL ks s0 k = keyL ks s0 k') (msg : List UInt8) : macL ks s0 k msg = macL ks s0 k' msg := by unfold macL; rw [h]
set_option maxRecDepth 20000 in
set_option maxHeartbeats 8000000 in
theorem keys_any (A : Option Addr) (c n : Nat) (l : List UInt8) (A1 : Option Addr) (c1 m : Nat) (msg : List UInt8) (w : World) (hn : l.length = n) (hm : msg.length = m) (hb : n + m ≤ 1048576)
    (h : Rd encB w A l) (h1 : Rd encB w A1 msg) (hT : Rd enc32 w (some ⟨3, 0, none⟩) ksL) (hS : Rd enc32 w (some ⟨0, 0, none⟩) startS.list) :
    Calls Tryd.prog 7 #[.slice A n c, .slice A1 m c1] w fun e w' => e = .returned (.bool true) ∧ Below w.heap.size w w' := by
  have z1 := zeroA32
  have HP := Lib.hid h
  have HP1 := Lib.hid h1
  have HN := Lib.hid hn
  have HM := Lib.hid hm
  have HT := Lib.hid hT
  have HS := Lib.hid hS
  have g0 := Lib.hid (published_any w hT hS)
  clear hT hS h h1 hn hm
  obtain ⟨D, hD⟩ : ∃ D, D = macL ksL startS l msg := ⟨_, rfl⟩
  have HD := Lib.hid hD
  have HND := Lib.hid (show D.length = 32 by rw [hD]; exact digestL_len _ _ _)
  clear hD
  go_enter Tryd.func7, Tryd.ntmps7
  go_wp2_with fail
  with_reducible refine g0.out.mono ?_
  rintro e w1 ⟨rfl, hB1⟩
  have B1 := Lib.hid hB1
  have g1 := Lib.hid (copied_k A c n l w1 HN.out (by omega) (HP.out.below hB1))
  clear g0 hB1
  go_wp2_with fail
  with_reducible refine g1.out.mono ?_
  rintro e w2 ⟨A2, c2, rfl, o2, hc2, hc2m, hB2⟩
  have B2 := Lib.hid (B1.out.trans (hB2.mono B1.out.size))
  have g2 := Lib.hid (copied_k A1 c1 m msg w2 HM.out (by omega) (HP1.out.below B2.out))
  clear g1 hB2
  go_wp2_with fail
  with_reducible refine g2.out.mono ?_
  rintro e w3 ⟨A3, c3, rfl, o3, hc3, hc3m, hB3⟩
  have B3 := Lib.hid (B2.out.trans (hB3.mono B2.out.size))
  have g3 := Lib.hid (mac_n ksL ksL_len startS A2 A3 c2 c3 n m l msg w3 HN.out HM.out hc2 hc2m (by omega) (o2.below hB3).rd hc3 hc3m (by omega) o3.rd (HT.out.below B3.out) (HS.out.below B3.out))
  rw [← HD.out] at g3
  clear g2 hB3 o2 o3 hc2 hc2m hc3 hc3m
  go_wp2_with fail
  with_reducible refine g3.out.mono ?_
  rintro e w4 ⟨rfl, hB4⟩
  have C4 := B3.out.trans (hB4.mono B3.out.size)
  obtain ⟨R1, hR1⟩ : ∃ R, R = w4.heap.size := ⟨_, rfl⟩
  have HR1 := Lib.hid hR1
  have lR1 : w.heap.size ≤ R1 := by rw [hR1]; exact C4.size
  have q0 : Blk (w4.alloc (.cells (arr encB zero32) 36)) R1 36 (arr encB zero32) := by rw [HR1.out]; exact Blk.new w4 _ _
  have HB4 := Lib.hid (C4.alloc C4.size (.cells (arr encB zero32) 36))
  clear hR1 hB4 C4 g3
  go_wp2_with (first
    | rw [← HR1.out]
    | ((with_reducible refine wpList_store_blk rfl 36 (.tmp 5) (.tmp 21) rfl R1 36 (arr encB zero32) (arr encB D) ?hb rfl rfl (arrSz HND.out) ?hl (arr_one encB_one _) ?_); (case hb => exact q0); (case hl => rw [arr_size, arr_size, zero32_len, HND.out]); intro v5 b5 hg5 hs5; clear hs5))
  have B5 := Lib.hid (below_only HB4.out hg5 HB4.out.size lR1)
  have g5 := Lib.hid (copied_k A c n l v5 HN.out (by omega) (HP.out.below B5.out))
  clear HB4 hg5 q0
  with_reducible refine g5.out.mono ?_
  rintro e w6 ⟨A6, c6, rfl, o6, hc6, hc6m, hB6⟩
  have b6 := b5.below hB6 b5.lt
  have B6 := Lib.hid (B5.out.trans (hB6.mono B5.out.size))
  have o6' := o6.lower (base' := w.heap.size) B5.out.size
  have hR16 : R1 < v5.heap.size := b5.lt
  clear g5 hB6 b5
  go_upto_if 26 with fail
  go_cut [6] (fun t6 wx => ∃ (A' : Option Addr) (c' s : Nat) (kk : List UInt8), t6 = .slice A' s c' ∧ kk.length = s ∧ s ≤ 64 ∧ Own encB 5 wx w.heap.size (.slice A' s c') kk ∧ kk ++ List.replicate (64 - s) 0 = keyL ksL startS l ∧ Blk wx R1 36 (arr encB D) ∧ Below w.heap.size w wx)
  case first =>
    by_cases h64 : 64 < n
    · have h64' : (64 : Int) < (n : Int) := by omega
      have g6 := Lib.hid (copied_k A c n l w6 HN.out (by omega) (HP.out.below B6.out))
      obtain ⟨S, hSe⟩ : ∃ S, S = digestL ksL startS l := ⟨_, rfl⟩
      have HSE := Lib.hid hSe
      have HNS := Lib.hid (show S.length = 32 by rw [hSe]; exact digestL_len _ _ _)
      clear hSe
      go_wp2_with fail
      with_reducible refine g6.out.mono ?_
      rintro e w7 ⟨A7, c7, rfl, o7, hc7, hc7m, hB7⟩
      have b7 := b6.below hB7 b6.lt
      have B7 := Lib.hid (B6.out.trans (hB7.mono B6.out.size))
      have g7 := Lib.hid (sum256_n ksL ksL_len startS A7 c7 n l w7 HN.out hc7 hc7m (by omega) o7.rd (HT.out.below B7.out) (HS.out.below B7.out))
      rw [← HSE.out] at g7
      clear g6 hB7 o7 hc7 hc7m b6
      go_wp2_with fail
      with_reducible refine g7.out.mono ?_
      rintro e w8 ⟨rfl, hB8⟩
      have b8 := b7.below hB8 b7.lt
      have C8 := B7.out.trans (hB8.mono B7.out.size)
      obtain ⟨R2, hR2⟩ : ∃ R, R = w8.heap.size := ⟨_, rfl⟩
      have HR2 := Lib.hid hR2
      have lR2 : w.heap.size ≤ R2 := by rw [hR2]; exact C8.size
      have hR12 : R1 < R2 := by rw [hR2]; exact b8.lt
      have q0 : Blk (w8.alloc (.cells (arr encB zero32) 36)) R2 36 (arr encB zero32) := by rw [HR2.out]; exact Blk.new w8 _ _
      have HB8 := Lib.hid (C8.alloc C8.size (.cells (arr encB zero32) 36))
      have b8a := b8.alloc (.cells (arr encB zero32) 36)
      clear hR2 hB8 C8 g7 b7 b8
      go_wp2_with (first
        | rw [← HR2.out]
        | ((with_reducible refine wpList_store_blk rfl 36 (.tmp 7) (.tmp 29) rfl R2 36 (arr encB zero32) (arr encB S) ?hb rfl rfl (arrSz HNS.out) ?hl (arr_one encB_one _) ?_); (case hb => exact q0); (case hl => rw [arr_size, arr_size, zero32_len, HNS.out]); intro v9 b9 hg9 hs9; clear hs9))
      have B9 := Lib.hid (below_only HB8.out hg9 HB8.out.size lR2)
      have p9 := b8a.grown hg9 (by intro e; cases e; omega)
      have g9 := Lib.hid (join_k none (some ⟨R2, 0, none⟩) 0 32 0 32 32 [] S v9 rfl HNS.out rfl (by omega) Rd.nil_ (rd_blk b9))
      clear HB8 hg9 q0 b8a
      with_reducible refine g9.out.mono ?_
      rintro e w10 ⟨A8, c8, rfl, o10, hc10, hc10m, hB10⟩
      rw [List.nil_append] at o10
      have p10 := p9.below hB10 p9.lt
      have B10 := Lib.hid (B9.out.trans (hB10.mono B9.out.size))
      have o10w := o10.lower (base' := w.heap.size) B9.out.size
      have g10 := Lib.hid (copied_k A8 c8 32 S w10 HNS.out (by omega) o10w.rd)
      clear g9 hB10 o10 p9 b9
      go_wp2_with fail
      with_reducible refine g10.out.mono ?_
      rintro e w11 ⟨A11, c11, rfl, o11, hc11, hc11m, hB11⟩
      have p11 := p10.below hB11 p10.lt
      have B11 := Lib.hid (B10.out.trans (hB11.mono B10.out.size))
      have o11k := o10w.below hB11
      have g11 := Lib.hid (copied_k A1 c1 m msg w11 HM.out (by omega) (HP1.out.below B11.out))
      clear g10 hB11 o10w p10
      go_wp2_with fail
      with_reducible refine g11.out.mono ?_
      rintro e w12 ⟨A12, c12, rfl, o12, hc12, hc12m, hB12⟩
      have p12 := p11.below hB12 p11.lt
      have B12 := Lib.hid (B11.out.trans (hB12.mono B11.out.size))
      have o12k := o11k.below hB12
      have g12 := Lib.hid (mac_n ksL ksL_len startS A11 A12 c11 c12 32 m S msg w12 HNS.out HM.out hc11 hc11m (by omega) (o11.below hB12).rd hc12 hc12m (by omega) o12.rd (HT.out.below B12.out) (HS.out.below B12.out))
      rw [show macL ksL startS S msg = D by rw [HD.out, HSE.out]; exact macL_key (keyL_long ksL startS l (by rw [HN.out]; exact h64)) msg] at g12
      clear g11 hB12 o11k p11 o11 o12 hc11 hc11m hc12 hc12m
      go_wp2_with fail
      with_reducible refine g12.out.mono ?_
      rintro e w13 ⟨rfl, hB13⟩
      have p13 := p12.below hB13 p12.lt
      have o13k := o12k.below hB13
      have C13 := B12.out.trans (hB13.mono B12.out.size)
      obtain ⟨R3, hR3⟩ : ∃ R, R = w13.heap.size := ⟨_, rfl⟩
      have HR3 := Lib.hid hR3
      have lR3 : w.heap.size ≤ R3 := by rw [hR3]; exact C13.size
      have hR13 : R1 < R3 := by rw [hR3]; exact p13.lt
      have q0 : Blk (w13.alloc (.cells (arr encB zero32) 36)) R3 36 (arr encB zero32) := by rw [HR3.out]; exact Blk.new w13 _ _
      have HB13 := Lib.hid (C13.alloc C13.size (.cells (arr encB zero32) 36))
      have p13a := p13.alloc (.cells (arr encB zero32) 36)
      have o13a := o13k.alloc (.cells (arr encB zero32) 36)
      have hne := o13a.blk_ne q0 (by decide)
      clear hR3 hB13 C13 g12 p12 p13 o12k o13k
      go_wp2_with (first
        | rw [← HR3.out]
        | ((with_reducible refine wpList_store_blk rfl 36 (.tmp 8) (.tmp 36) rfl R3 36 (arr encB zero32) (arr encB D) ?hb rfl rfl (arrSz HND.out) ?hl (arr_one encB_one _) ?_); (case hb => exact q0); (case hl => rw [arr_size, arr_size, zero32_len, HND.out]); intro v14 b14 hg14 hs14; clear hs14; have p14 := p13a.grown hg14 (by intro e; cases e; omega); have o14 := o13a.grown hg14 (.inr hne))
        | ((with_reducible refine wpList_load_blk rfl 36 (.tmp 5) rfl R1 36 (arr encB D) ?hb rfl arrTy rfl (arrSz HND.out) ?_); (case hb => exact p14))
        | ((with_reducible refine wpList_load_blk rfl 36 (.tmp 8) rfl R3 36 (arr encB D) ?hb rfl arrTy rfl (arrSz HND.out) ?_); (case hb => exact b14)))
      have B14 := Lib.hid (below_only HB13.out hg14 HB13.out.size lR3)
      have g14 := Lib.hid (equal_any D D v14 HND.out HND.out)
      rw [show decide (D = D) = true from decide_eq_true rfl] at g14
      clear HB13 hg14 q0 p13a o13a b14 hne
      with_reducible refine g14.out.mono ?_
      rintro e w15 ⟨rfl, hB15⟩
      have p15 := p14.below hB15 p14.lt
      have o15 := o14.below hB15
      have B15 := Lib.hid (B14.out.trans (hB15.mono B14.out.size))
      clear g14 hB15 p14 o14
      go_wp2_with fail
      go_meet
      exact ⟨A8, c8, 32, S, rfl, HNS.out, by omega, o15, by rw [HSE.out, keyL, if_pos (by rw [HN.out]; exact h64), digestL_len], p15, B15.out⟩
    · by_cases h64b : n < 64
      · have h64' : ¬ (64 : Int) < (n : Int) := by omega
        have h64c : (n : Int) < 64 := by omega
        have M1 : Rd encB (w6.alloc (.cells #[.int .u8 0] 5)) (some ⟨w6.heap.size, 0, none⟩) [0] := Rd.one encB w6 5 0
        have B6a := B6.out.alloc B6.out.size (.cells #[.int .u8 0] 5)
        have HLZ := Lib.hid (show (l ++ [0]).length = n + 1 by rw [List.length_append, HN.out]; rfl)
        have g6 := Lib.hid (join_k A (some ⟨w6.heap.size, 0, none⟩) c 1 n 1 (n + 1) l [0] _ HN.out rfl rfl (by omega) (HP.out.below B6a) M1)
        have B6z := Lib.hid B6a
        have b6z := b6.alloc (.cells #[.int .u8 0] 5)
        have o6z := o6'.alloc (.cells #[.int .u8 0] 5)
        clear M1 B6a b6 o6' o6
        go_wp2_with fail
        with_reducible refine g6.out.mono ?_
        rintro e w10 ⟨A8, c8, rfl, o10, hc10, hc10m, hB10⟩
        have p10 := b6z.below hB10 b6z.lt
        have q10 := o6z.below hB10
        have B10 := Lib.hid (B6z.out.trans (hB10.mono B6z.out.size))
        have g11 := Lib.hid (copied_k A1 c1 m msg w10 HM.out (by omega) (HP1.out.below B10.out))
        clear g6 hB10 b6z o6z
        go_wp2_with fail
        with_reducible refine g11.out.mono ?_
        rintro e w12 ⟨A12, c12, rfl, o12, hc12, hc12m, hB12⟩
        have p12 := p10.below hB12 p10.lt
        have q12 := q10.below hB12
        have B12 := Lib.hid (B10.out.trans (hB12.mono B10.out.size))
        have g12 := Lib.hid (mac_n ksL ksL_len startS A8 A12 c8 c12 (n + 1) m (l ++ [0]) msg w12 HLZ.out HM.out hc10 hc10m (by omega) (o10.below hB12).rd hc12 hc12m (by omega) o12.rd (HT.out.below B12.out) (HS.out.below B12.out))
        rw [show macL ksL startS (l ++ [0]) msg = D by rw [HD.out]; exact macL_key (keyL_zero ksL startS l (by rw [HN.out]; exact h64b)) msg] at g12
        clear g11 hB12 p10 q10 o10 o12 hc10 hc10m hc12 hc12m
        go_wp2_with fail
        with_reducible refine g12.out.mono ?_
        rintro e w13 ⟨rfl, hB13⟩
        have p13 := p12.below hB13 p12.lt
        have o13k := q12.below hB13
        have C13 := B12.out.trans (hB13.mono B12.out.size)
        obtain ⟨R3, hR3⟩ : ∃ R, R = w13.heap.size := ⟨_, rfl⟩
        have HR3 := Lib.hid hR3
        have lR3 : w.heap.size ≤ R3 := by rw [hR3]; exact C13.size
        have hR13 : R1 < R3 := by rw [hR3]; exact p13.lt
        have q0 : Blk (w13.alloc (.cells (arr encB zero32) 36)) R3 36 (arr encB zero32) := by rw [HR3.out]; exact Blk.new w13 _ _
        have HB13 := Lib.hid (C13.alloc C13.size (.cells (arr encB zero32) 36))
        have p13a := p13.alloc (.cells (arr encB zero32) 36)
        have o13a := o13k.alloc (.cells (arr encB zero32) 36)
        have hne := o13a.blk_ne q0 (by decide)
        clear hR3 hB13 C13 g12 p12 p13 q12 o13k
        go_wp2_with (first
          | rw [← HR3.out]
          | ((with_reducible refine wpList_store_blk rfl 36 (.tmp 9) (.tmp 49) rfl R3 36 (arr encB zero32) (arr encB D) ?hb rfl rfl (arrSz HND.out) ?hl (arr_one encB_one _) ?_); (case hb => exact q0); (case hl => rw [arr_size, arr_size, zero32_len, HND.out]); intro v14 b14 hg14 hs14; clear hs14; have p14 := p13a.grown hg14 (by intro e; cases e; omega); have o14 := o13a.grown hg14 (.inr hne))
          | ((with_reducible refine wpList_load_blk rfl 36 (.tmp 5) rfl R1 36 (arr encB D) ?hb rfl arrTy rfl (arrSz HND.out) ?_); (case hb => exact p14))
          | ((with_reducible refine wpList_load_blk rfl 36 (.tmp 9) rfl R3 36 (arr encB D) ?hb rfl arrTy rfl (arrSz HND.out) ?_); (case hb => exact b14)))
        have B14 := Lib.hid (below_only HB13.out hg14 HB13.out.size lR3)
        have g14 := Lib.hid (equal_any D D v14 HND.out HND.out)
        rw [show decide (D = D) = true from decide_eq_true rfl] at g14
        clear HB13 hg14 q0 p13a o13a b14 hne
        with_reducible refine g14.out.mono ?_
        rintro e w15 ⟨rfl, hB15⟩
        have p15 := p14.below hB15 p14.lt
        have o15 := o14.below hB15
        have B15 := Lib.hid (B14.out.trans (hB15.mono B14.out.size))
        clear g14 hB15 p14 o14
        go_wp2_with fail
        go_meet
        exact ⟨A6, c6, n, l, rfl, HN.out, by omega, o15, by rw [keyL, if_neg (by rw [HN.out]; omega), HN.out], p15, B15.out⟩
      · obtain rfl : n = 64 := by omega
        rw [show ((64 : Nat) : Int) = 64 from rfl]
        go_wp2_with fail
        go_meet
        exact ⟨A6, c6, 64, l, rfl, HN.out, by omega, o6', by rw [keyL, if_neg (by rw [HN.out]; omega), HN.out], b6, B6.out⟩
  case rest =>
    obtain ⟨A7, c7, s, kk, rfl, hkk, hs64, ok, hkey, bR, hB⟩ := hcut
    clear o6' o6 b6 B6 hc6 hc6m
    have HKY := Lib.hid hkey
    have HKK := Lib.hid hkk
    clear hkey hkk
    go_wp2_with fail
    go_loopw [6] (fun v wr => ∃ (A' : Option Addr) (c' s : Nat) (kk : List UInt8), v = .slice A' s c' ∧ kk.length = s ∧ s ≤ 64 ∧ Own encB 5 wr w.heap.size (.slice A' s c') kk ∧ kk ++ List.replicate (64 - s) 0 = keyL ksL startS l ∧ Blk wr R1 36 (arr encB D) ∧ Below w.heap.size w wr) (fun v _ => 64 - sliceLen v)
    case atStart => exact ⟨A7, c7, s, kk, rfl, HKK.out, hs64, ok, HKY.out, bR, hB⟩
    case round =>
      clear ok bR hB HKK HKY hs64 A7 c7 kk s
      obtain ⟨A7, c7, s, kk, rfl, hkk, hs64, ok, hkey, bR, hB⟩ := hrel
      have HKY := Lib.hid hkey
      have HKK := Lib.hid hkk
      clear hkey hkk
      by_cases hlt : s < 64
      · have hlt' : (s : Int) < 64 := by omega
        have hlen : kk.length + ([0] : List UInt8).length ≤ 65 := by rw [HKK.out]; simp; omega
        have Hlen := Lib.hid hlen
        clear hlen
        go_wp2_with (at_builtin; refine wpList_appendO _ bTy encB_one rfl (.tmp 57) (.tmp 58) rfl w.heap.size _ kk [0] rfl (ok.alloc _) (some ⟨wr.heap.size, 0, none⟩) 1 rfl (Rd.one encB wr 5 0) (by have := Hlen.out; simp only [maxLen]; omega) (by have := Hlen.out; omega) (by have := hB.size; simp; omega) ?_; intro v1 w3 o1 hg1 hloc1)
        have bR1 := (bR.alloc _).grown hg1 (fun e => ok.blk_ne bR (by decide) e.symm)
        have B1z := below_own (hB.alloc hB.size _) (ok.alloc _) (Nat.le_refl _) hg1 (by have := hB.size; simp; omega)
        obtain ⟨A8, c8, hv8, hc8, _, _⟩ := o1.slice
        subst hv8
        have hL8 : (kk ++ [0]).length = s + 1 := by rw [List.length_append, HKK.out]; rfl
        rw [hL8] at o1 ⊢
        go_roundw
        case rel => exact ⟨A8, c8, s + 1, kk ++ [0], rfl, hL8, by omega, o1, by rw [List.append_assoc, ← HKY.out, show 64 - s = (64 - (s + 1)) + 1 by omega, List.replicate_succ]; rfl, bR1, B1z⟩
        case measure => simp only [sliceLen]; omega
      · obtain rfl : s = 64 := by omega
        obtain ⟨K, hK⟩ : ∃ K, K = keyL ksL startS l := ⟨_, rfl⟩
        have hkk2 : kk = K := by rw [hK, ← HKY.out]; simp
        have HKL := Lib.hid (show K.length = 64 by rw [← hkk2, HKK.out])
        have HKE := Lib.hid hK
        subst hkk2
        clear hK HKY HKK
        have mk : ∀ W, (Instr.makeSlice 27 (.int .i64 64) (.int .i64 64)).run Tryd.prog W = .ok (.slice (some ⟨W.heap.size, 0, none⟩) 64 64) (W.alloc (.cells (arr encB (List.replicate 64 0)) 5)) := mk_bytes 64 (by omega)
        obtain ⟨g, cap, hv, hg, hgl, hcap, hmax⟩ := ok.pos HKL.out (show 0 < 64 by omega)
        cases hv
        obtain ⟨I, hI⟩ : ∃ I, I = wr.heap.size := ⟨_, rfl⟩
        obtain ⟨O, hO⟩ : ∃ O, O = I + 1 := ⟨_, rfl⟩
        have hgI : g < I := by rw [hI]; exact hgl
        have hR1I : R1 < I := by rw [hI]; exact bR.lt
        have hwI : w.heap.size ≤ I := by rw [hI]; exact hB.size
        have hIO : I < O := by omega
        obtain ⟨P6, hP6⟩ : ∃ P, P = kk.map (· ^^^ (54 : UInt8)) := ⟨_, rfl⟩
        obtain ⟨P9, hP9⟩ : ∃ P, P = kk.map (· ^^^ (92 : UInt8)) := ⟨_, rfl⟩
        have HL6 := Lib.hid (show P6.length = 64 by rw [hP6, List.length_map, HKL.out])
        have HL9 := Lib.hid (show P9.length = 64 by rw [hP9, List.length_map, HKL.out])
        have e6 : upTo_ P6 64 0 = List.replicate 64 0 := by simp [upTo_]
        have e9 : upTo_ P9 64 0 = List.replicate 64 0 := by simp [upTo_]
        have bI : Blk ((wr.alloc (.cells (arr encB (List.replicate 64 0)) 5)).alloc (.cells (arr encB (List.replicate 64 0)) 5)) I 5 (arr encB (upTo_ P6 64 0)) := by rw [e6, hI]; exact (Blk.new wr _ _).alloc _
        have bO : Blk ((wr.alloc (.cells (arr encB (List.replicate 64 0)) 5)).alloc (.cells (arr encB (List.replicate 64 0)) 5)) O 5 (arr encB (upTo_ P9 64 0)) := by
          have := Blk.new (wr.alloc (.cells (arr encB (List.replicate 64 0)) 5)) 5 (arr encB (List.replicate 64 0))
          rw [World.size_alloc] at this
          rw [e9, hO, hI]; exact this
        have bR2 := (bR.alloc (.cells (arr encB (List.replicate 64 0)) 5)).alloc (.cells (arr encB (List.replicate 64 0)) 5)
        have ok2 := (ok.alloc (.cells (arr encB (List.replicate 64 0)) 5)).alloc (.cells (arr encB (List.replicate 64 0)) 5)
        have hB1z := hB.alloc hB.size (.cells (arr encB (List.replicate 64 0)) 5)
        have B2z := hB1z.alloc hB1z.size (.cells (arr encB (List.replicate 64 0)) 5)
        have HI := Lib.hid hI
        have HO := Lib.hid hO
        have H6 := Lib.hid hP6
        have H9 := Lib.hid hP9
        clear hI hO hP6 hP9 e6 e9 bR ok hB hB1z hgl
        go_wp2_with (first | rw [← HI.out] | rw [← HO.out])
        go_loopw [12] (fun t wr => ∃ i : Nat, i ≤ 64 ∧ t = .int .i64 i ∧ Own encB 5 wr w.heap.size (.slice (some ⟨g, 0, none⟩) 64 c7) kk ∧ Blk wr I 5 (arr encB (upTo_ P6 64 i)) ∧ Blk wr O 5 (arr encB (upTo_ P9 64 i)) ∧ Blk wr R1 36 (arr encB D) ∧ Below w.heap.size w wr) (fun t _ => 64 - (intOf t).toNat)
        case atStart => exact ⟨0, by omega, rfl, ok2, bI, bO, bR2, B2z⟩
        case round =>
          obtain ⟨i, hi, rfl, pk, pI, pO, pR, hB⟩ := hrel
          clear ok2 bI bO bR2 B2z mk
          by_cases hlt2 : i < 64
          · obtain ⟨x, hx, hcell, hfr⟩ := pk.at_ hlt2
            have hz6 : P6[i]? = some (x ^^^ 54) := by rw [H6.out, List.getElem?_map, hx]; rfl
            have hz9 : P9[i]? = some (x ^^^ 92) := by rw [H9.out, List.getElem?_map, hx]; rfl
            have l6 := upTo_len P6 (n := 64) (k := i) (by rw [HL6.out]; omega) (by omega)
            have l9 := upTo_len P9 (n := 64) (k := i) (by rw [HL9.out]; omega) (by omega)
            obtain ⟨y, hy⟩ : ∃ y, (upTo_ P6 64 i)[i]? = some y := ⟨_, List.getElem?_eq_getElem (by rw [l6]; exact hlt2)⟩
            obtain ⟨z, hz⟩ : ∃ y, (upTo_ P9 64 i)[i]? = some y := ⟨_, List.getElem?_eq_getElem (by rw [l9]; exact hlt2)⟩
            have xi : wr.cell? ⟨I, i, none⟩ = some (encB y) := (pI.cell _).trans (arr_at hy)
            have fi := pI.frozen i
            have xo : wr.cell? ⟨O, i, none⟩ = some (encB z) := (pO.cell _).trans (arr_at hz)
            have fo := pO.frozen i
            have hi2 : (0 : Int) ≤ (i : Int) ∧ (i : Int) < 64 := by omega
            have hne1 : g ≠ I := by omega
            have hne2 : O ≠ I := by omega
            have Z6 := Lib.hid hz6
            have Z9 := Lib.hid hz9
            clear hx hy hz hz6 hz9 l6 l9
            go_wp2
            go_roundw
            case rel =>
              have h1 := (pI.set_ i (encB (x ^^^ 54))).far (p := ⟨O, i, none⟩) (show I ≠ O by omega) (encB (x ^^^ 92))
              rw [arr_set, upTo_set Z6.out hlt2] at h1
              have h2 := (pO.far (p := ⟨I, i, none⟩) (show O ≠ I by omega) (encB (x ^^^ 54))).set_ i (encB (x ^^^ 92))
              rw [arr_set, upTo_set Z9.out hlt2] at h2
              exact ⟨i + 1, by omega, by go_num, (pk.far (p := ⟨I, i, none⟩) (by show some g ≠ some I; intro e; cases e; omega) _).far (p := ⟨O, i, none⟩) (by show some g ≠ some O; intro e; cases e; omega) _, h1, h2, (pR.far (p := ⟨I, i, none⟩) (show R1 ≠ I by omega) _).far (p := ⟨O, i, none⟩) (show R1 ≠ O by omega) _, (hB.setCell (by show w.heap.size ≤ I; omega) _).setCell (by show w.heap.size ≤ O; omega) _⟩
            case measure => simp [intOf]; omega
          · obtain rfl : i = 64 := by omega
            rw [show ((64 : Nat) : Int) = 64 from rfl]
            have e6 : upTo_ P6 64 64 = P6 := by unfold upTo_; rw [List.take_of_length_le (by rw [HL6.out]; omega), Nat.sub_self]; simp
            have e9 : upTo_ P9 64 64 = P9 := by unfold upTo_; rw [List.take_of_length_le (by rw [HL9.out]; omega), Nat.sub_self]; simp
            rw [e6] at pI
            rw [e9] at pO
            have HLJ := Lib.hid (show (P6 ++ msg).length = 64 + m by rw [List.length_append, HL6.out, HM.out])
            have BL := Lib.hid hB
            have j1 := Lib.hid (join_k (some ⟨I, 0, none⟩) A1 64 c1 64 m (64 + m) P6 msg wr HL6.out HM.out rfl (by omega) (rd_blk pI) (HP1.out.below hB))
            obtain ⟨F, hF⟩ : ∃ F, F = digestL ksL startS (P6 ++ msg) := ⟨_, rfl⟩
            have HF := Lib.hid hF
            have HNF := Lib.hid (show F.length = 32 by rw [hF]; exact digestL_len _ _ _)
            have HLJ2 := Lib.hid (show (P9 ++ F).length = 96 by rw [List.length_append, HL9.out, HNF.out])
            clear hF e6 e9 hB pI pk
            go_wp2_with fail
            with_reducible refine j1.out.mono ?_
            rintro e w20 ⟨A20, c20, rfl, o20, hc20, hc20m, hB20⟩
            have pR20 := pR.below hB20 pR.lt
            have pO20 := pO.below hB20 pO.lt
            have B20 := Lib.hid (BL.out.trans (hB20.mono BL.out.size))
            have j2 := Lib.hid (sum256_n ksL ksL_len startS A20 c20 (64 + m) (P6 ++ msg) w20 HLJ.out hc20 hc20m (by omega) o20.rd (HT.out.below B20.out) (HS.out.below B20.out))
            rw [← HF.out] at j2
            clear j1 hB20 o20 hc20 hc20m pR pO
            go_wp2_with fail
            with_reducible refine j2.out.mono ?_
            rintro e w21 ⟨rfl, hB21⟩
            have pR21 := pR20.below hB21 pR20.lt
            have pO21 := pO20.below hB21 pO20.lt
            have C21 := B20.out.trans (hB21.mono B20.out.size)
            obtain ⟨R4, hR4⟩ : ∃ R, R = w21.heap.size := ⟨_, rfl⟩
            have HR4 := Lib.hid hR4
            have lR4 : w.heap.size ≤ R4 := by rw [hR4]; exact C21.size
            have hR14 : R1 < R4 := by rw [hR4]; exact pR21.lt
            have hO4 : O < R4 := by rw [hR4]; exact pO21.lt
            have q0 : Blk (w21.alloc (.cells (arr encB zero32) 36)) R4 36 (arr encB zero32) := by rw [HR4.out]; exact Blk.new w21 _ _
            have HB21 := Lib.hid (C21.alloc C21.size (.cells (arr encB zero32) 36))
            have pR21a := pR21.alloc (.cells (arr encB zero32) 36)
            have pO21a := pO21.alloc (.cells (arr encB zero32) 36)
            clear hR4 hB21 C21 j2 pR20 pO20 pR21 pO21
            go_wp2_with (first
              | rw [← HR4.out]
              | ((with_reducible refine wpList_store_blk rfl 36 (.tmp 13) (.tmp 85) rfl R4 36 (arr encB zero32) (arr encB F) ?hb rfl rfl (arrSz HNF.out) ?hl (arr_one encB_one _) ?_); (case hb => exact q0); (case hl => rw [arr_size, arr_size, zero32_len, HNF.out]); intro v22 b22 hg22 hs22; clear hs22))
            have B22 := Lib.hid (below_only HB21.out hg22 HB21.out.size lR4)
            have pR22 := pR21a.grown hg22 (by intro e; cases e; omega)
            have pO22 := pO21a.grown hg22 (by intro e; cases e; omega)
            have j3 := Lib.hid (join_k (some ⟨O, 0, none⟩) (some ⟨R4, 0, none⟩) 64 32 64 32 96 P9 F v22 HL9.out HNF.out rfl (by omega) (rd_blk pO22) (rd_blk b22))
            clear HB21 hg22 q0 pR21a pO21a
            with_reducible refine j3.out.mono ?_
            rintro e w23 ⟨A23, c23, rfl, o23, hc23, hc23m, hB23⟩
            have pR23 := pR22.below hB23 pR22.lt
            have B23 := Lib.hid (B22.out.trans (hB23.mono B22.out.size))
            have j4 := Lib.hid (sum256_n ksL ksL_len startS A23 c23 96 (P9 ++ F) w23 HLJ2.out hc23 hc23m (by omega) o23.rd (HT.out.below B23.out) (HS.out.below B23.out))
            rw [show digestL ksL startS (P9 ++ F) = D by rw [HD.out, HF.out, H9.out, H6.out, HKE.out]; rfl] at j4
            clear j3 hB23 o23 hc23 hc23m pR22 pO22 b22
            go_wp2_with fail
            with_reducible refine j4.out.mono ?_
            rintro e w24 ⟨rfl, hB24⟩
            have pR24 := pR23.below hB24 pR23.lt
            have C24 := B23.out.trans (hB24.mono B23.out.size)
            obtain ⟨R5, hR5⟩ : ∃ R, R = w24.heap.size := ⟨_, rfl⟩
            have HR5 := Lib.hid hR5
            have lR5 : w.heap.size ≤ R5 := by rw [hR5]; exact C24.size
            have hR15 : R1 < R5 := by rw [hR5]; exact pR24.lt
            have q0 : Blk (w24.alloc (.cells (arr encB zero32) 36)) R5 36 (arr encB zero32) := by rw [HR5.out]; exact Blk.new w24 _ _
            have HB24 := Lib.hid (C24.alloc C24.size (.cells (arr encB zero32) 36))
            have pR24a := pR24.alloc (.cells (arr encB zero32) 36)
            clear hR5 hB24 C24 j4 pR23 pR24
            go_wp2_with (first
              | rw [← HR5.out]
              | ((with_reducible refine wpList_store_blk rfl 36 (.tmp 14) (.tmp 89) rfl R5 36 (arr encB zero32) (arr encB D) ?hb rfl rfl (arrSz HND.out) ?hl (arr_one encB_one _) ?_); (case hb => exact q0); (case hl => rw [arr_size, arr_size, zero32_len, HND.out]); intro v25 b25 hg25 hs25; clear hs25; have pR25 := pR24a.grown hg25 (by intro e; cases e; omega))
              | ((with_reducible refine wpList_load_blk rfl 36 (.tmp 5) rfl R1 36 (arr encB D) ?hb rfl arrTy rfl (arrSz HND.out) ?_); (case hb => exact pR25))
              | ((with_reducible refine wpList_load_blk rfl 36 (.tmp 14) rfl R5 36 (arr encB D) ?hb rfl arrTy rfl (arrSz HND.out) ?_); (case hb => exact b25)))
            have B25 := Lib.hid (below_only HB24.out hg25 HB24.out.size lR5)
            have j5 := Lib.hid (equal_any D D v25 HND.out HND.out)
            rw [show decide (D = D) = true from decide_eq_true rfl] at j5
            clear HB24 hg25 q0 pR24a b25 pR25
            with_reducible refine j5.out.mono ?_
            rintro e w26 ⟨rfl, hB26⟩
            have B26 := Lib.hid (B25.out.trans (hB26.mono B25.out.size))
            clear j5 hB26
            go_wp2_with fail
            go_ret
            exact ⟨rfl, B26.out⟩
end Go.Proofs.YtepikbmlhejobaaDoor
