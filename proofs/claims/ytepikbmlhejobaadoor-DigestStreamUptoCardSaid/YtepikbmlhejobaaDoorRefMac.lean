/- The reference: Mac. -/
import Derived.Test.YtepikbmlhejobaaDoorRefSha
namespace Go.Proofs.YtepikbmlhejobaaDoor
open Go.RowKit
attribute [local go_sem] u8_xor92 u8_xor54
/-- two lists in memory, each its own -/
def Sep (v v' : Value) : Prop := ∀ k, v.ownBlock = some k → v'.ownBlock ≠ some k
theorem Sep.symm {v v' : Value} (h : Sep v v') : Sep v' v := fun k e e' => h k e' e
theorem Sep.ne {v v' : Value} (h : Sep v v') : v.ownBlock = none ∨ v.ownBlock ≠ v'.ownBlock := by
  cases e : v.ownBlock with
  | none => exact .inl rfl
  | some k => exact .inr fun e2 => h k e e2.symm
theorem Sep.app {v v' x : Value} {n : Nat} (h : Sep v x) (hl : v'.ownBlock = v.ownBlock ∨ v'.ownBlock = some n) (hx : ∀ k, x.ownBlock = some k → k < n) : Sep v' x := fun k e e' => by
  rcases hl with h1 | h1
  · exact h k (by rw [← h1]; exact e) e'
  · rw [h1] at e
    cases e
    have := hx _ e'
    omega
theorem Own.made_at {α : Type} (enc : α → Value) (e : TypeId) (w : World) {base n : Nat} (hn : w.heap.size = n) (hb : base ≤ n) : Own enc e (w.alloc (.cells #[] e)) base (.slice (some ⟨n, 0, none⟩) 0 0) [] := by subst hn; exact Own.made enc e w hb
theorem take_map_snoc {l : List UInt8} {k : Nat} {x : UInt8} (f : UInt8 → UInt8) (h : l[k]? = some x) : (l.take k).map f ++ [f x] = (l.take (k + 1)).map f := by rw [take_snoc_ h, List.map_append]; rfl
set_option maxRecDepth 20000 in
set_option maxHeartbeats 8000000 in
theorem refMac_any (A B : Option Addr) (c d n m : Nat) (key msg : List UInt8) (w : World) (hn : key.length = n) (hm : msg.length = m) (hbn : n ≤ 140737488351232) (hbm : m ≤ 140737488351232) (h : Rd encB w A key) (h1 : Rd encB w B msg)
    (hTB : Rd enc32 w (some ⟨1, 0, none⟩) startS.list) (hTQ : Rd enc32 w (some ⟨2, 0, none⟩) ksL) :
    Calls Tryd.prog 29 #[.slice A n c, .slice B m d] w fun e w' => e = .returned (.agg (arr encB (macL ksL startS key msg))) ∧ Below w.heap.size w w' := by
  have z1 := zeroA32
  have HP := Lib.hid h
  have HP1 := Lib.hid h1
  have HN := Lib.hid hn
  have HM := Lib.hid hm
  have HTB := Lib.hid hTB
  have HTQ := Lib.hid hTQ
  clear h h1 hn hm hTB hTQ
  obtain ⟨H, hH⟩ : ∃ H, H = w.heap.size := ⟨_, rfl⟩
  have HH := Lib.hid hH
  have b0 : Blk (w.alloc (.cells (arr encB zero32) 36)) H 36 (arr encB zero32) := by rw [hH]; exact Blk.new w _ _
  have hsz0 : (w.alloc (.cells (arr encB zero32) 36)).heap.size = H + 1 := by rw [World.size_alloc, hH]
  have hwH : w.heap.size ≤ H := by omega
  have B0 : Below H w (w.alloc (.cells (arr encB zero32) 36)) := by rw [hH]; exact (Below.refl _ w).alloc (Nat.le_refl _) _
  have HB0 := Lib.hid B0
  have HSZ0 := Lib.hid hsz0
  have O0 := Lib.hid (Own.made_at encB 5 (w.alloc (.cells (arr encB zero32) 36)) (base := H + 1) (n := w.heap.size + 1) (by rw [hsz0, hH]) (by omega))
  clear hH B0 hsz0
  go_enter Tryd.func29, Tryd.ntmps29
  go_upto_if 16 with (first | (at_builtin; refine wpList_appendO _ bTy encB_one rfl (.tmp 11) (.tmp 12) rfl (H + 1) _ [] key rfl O0.out A c (by rw [HN.out]; rfl) ((HP.out.alloc _).alloc _) (by rw [HN.out]; simp [maxLen]; omega) (by rw [HN.out]; simp; omega) (by simp; have := HSZ0.out; simp at this; omega) ?_; intro v1 w1 o1 hg1 hloc1; rw [List.nil_append] at o1; obtain ⟨A1, c1, hv1, _, _, _⟩ := o1.slice; rw [HN.out] at hv1; subst hv1))
  have b1 : Blk w1 H 36 (arr encB zero32) := (b0.alloc _).grown hg1 (by intro e; have e2 : some H = some (w.heap.size + 1) := e; injection e2 with e2; have := HH.out; omega)
  have hB1 := below_own (HB0.out.alloc (by rw [HSZ0.out]; omega) _) O0.out (by omega) hg1 (by simp; have := HSZ0.out; simp at this; omega)
  have B1 := Lib.hid hB1
  have sz1 : H + 1 ≤ w1.heap.size := b1.lt
  clear hB1 hg1 hloc1 b0
  go_cut [5] (fun t5 wx => ∃ (A' : Option Addr) (c' s : Nat) (kk : List UInt8), t5 = .slice A' s c' ∧ kk.length = s ∧ s ≤ 64 ∧ Own encB 5 wx (H + 1) (.slice A' s c') kk ∧ kk ++ List.replicate (64 - s) 0 = keyL ksL startS key ∧ Blk wx H 36 (arr encB zero32) ∧ Below H w wx)
  case first =>
    by_cases h64 : 64 < n
    · have h64' : (64 : Int) < (n : Int) := by omega
      have g6 := Lib.hid (refSum_any A1 c1 n key w1 HN.out (by omega) o1.rd (HTB.out.below (HH.out ▸ B1.out)) (HTQ.out.below (HH.out ▸ B1.out)))
      obtain ⟨S, hSe⟩ : ∃ S, S = digestL ksL startS key := ⟨_, rfl⟩
      rw [← hSe] at g6
      have HSE := Lib.hid hSe
      have HNS := Lib.hid (show S.length = 32 by rw [hSe]; exact digestL_len _ _ _)
      clear hSe
      go_wp2_with fail
      with_reducible refine g6.out.mono ?_
      rintro e w2 ⟨rfl, hB2⟩
      have b2 := b1.below hB2 b1.lt
      have C2 := B1.out.trans (hB2.mono (by omega))
      obtain ⟨R2, hR2⟩ : ∃ R, R = w2.heap.size := ⟨_, rfl⟩
      have HR2 := Lib.hid hR2
      have lR2 : H + 1 ≤ R2 := by rw [hR2]; exact b2.lt
      have q0 : Blk (w2.alloc (.cells (arr encB zero32) 36)) R2 36 (arr encB zero32) := by rw [HR2.out]; exact Blk.new w2 _ _
      have HB2 := Lib.hid (C2.alloc (by rw [← hR2]; omega) (.cells (arr encB zero32) 36))
      have b2a := b2.alloc (.cells (arr encB zero32) 36)
      clear hR2 hB2 C2 g6 b1 b2 o1
      go_wp2_with (first
        | rw [← HR2.out]
        | ((with_reducible refine wpList_store_blk rfl 36 (.tmp 6) (.tmp 18) rfl R2 36 (arr encB zero32) (arr encB S) ?hb rfl rfl (arrSz HNS.out) ?hl (arr_one encB_one _) ?_); (case hb => exact q0); (case hl => rw [arr_size, arr_size, zero32_len, HNS.out]); intro w3 b3 hg3 hs3; clear hs3; have p3 := b2a.grown hg3 (by intro e; cases e; omega); have B3 := Lib.hid (below_only HB2.out hg3 (by have := HB2.out.size; have := HH.out; omega) (by omega)); have s3 : H + 1 ≤ w3.heap.size := p3.lt)
        | (at_builtin; refine wpList_appendO _ bTy encB_one rfl (.tmp 19) (.tmp 20) rfl (H + 1) _ [] S rfl (Own.made encB 5 w3 s3) (some ⟨R2, 0, none⟩) 32 (by rw [HNS.out]; rfl) (rd_blk (b3.alloc _)) (by rw [HNS.out]; simp [maxLen]) (by rw [HNS.out]; simp) (by simp; omega) ?_; intro v4 w4 o4 hg4 hloc4))
      rw [List.nil_append] at o4
      obtain ⟨A4, c4, hv4, _, _, _⟩ := o4.slice
      rw [HNS.out] at hv4
      subst hv4
      have hB4 := below_own (B3.out.alloc (by omega) _) (Own.made encB 5 w3 s3) (by omega) hg4 (by simp; omega)
      have p4 := (p3.alloc _).grown hg4 (by intro e; have e2 : some H = some w3.heap.size := e; injection e2 with e2; omega)
      go_meet
      exact ⟨A4, c4, 32, S, rfl, HNS.out, by omega, o4, by rw [HSE.out, keyL, if_pos (by rw [HN.out]; exact h64), digestL_len], p4, hB4⟩
    · have h64' : ¬ (64 : Int) < (n : Int) := by omega
      go_wp2_with fail
      go_meet
      exact ⟨A1, c1, n, key, rfl, HN.out, by omega, o1, by rw [keyL, if_neg (by rw [HN.out]; exact h64), HN.out], b1, B1.out⟩
  case rest =>
    obtain ⟨A2, c2, s2, kk, rfl, hkk, hs64, o2, hkey, b2, hB2⟩ := hcut
    clear o1 b1 B1 sz1
    go_wp2_with fail
    go_loopw [5] (fun t5 wx => ∃ (A' : Option Addr) (c' s : Nat) (kk : List UInt8), t5 = .slice A' s c' ∧ kk.length = s ∧ s ≤ 64 ∧ Own encB 5 wx (H + 1) (.slice A' s c') kk ∧ kk ++ List.replicate (64 - s) 0 = keyL ksL startS key ∧ Blk wx H 36 (arr encB zero32) ∧ Below H w wx) (fun v _ => 64 - slLen v)
    case atStart => exact ⟨A2, c2, s2, kk, rfl, hkk, hs64, o2, hkey, b2, hB2⟩
    case round =>
      obtain ⟨A3, c3, s, kq, rfl, hkq, hs, ok, hke, b3, hB3⟩ := hrel
      clear hkk o2 hkey b2 hB2
      have HKE := Lib.hid hke
      have HKQ := Lib.hid hkq
      have s3 : H + 1 ≤ wr.heap.size := b3.lt
      clear hke hkq
      by_cases hlt : s < 64
      · have hlt' : (s : Int) < 64 := by omega
        go_wp2_with (at_builtin; refine wpList_appendO _ bTy encB_one rfl (.tmp 25) (.tmp 26) rfl (H + 1) _ kq [0] rfl (ok.alloc _) (some ⟨wr.heap.size, 0, none⟩) 1 rfl (Rd.one encB wr 5 0) (by rw [HKQ.out]; simp only [maxLen, List.length_singleton]; omega) (by rw [HKQ.out]; simp only [List.length_singleton]; omega) (by simp; omega) ?_; intro v4 w4 o4 hg4 hloc4)
        have hB4 := below_own (hB3.alloc (by omega) _) (ok.alloc _) (by omega) hg4 (by simp; omega)
        have b4 := (b3.alloc _).grown hg4 (by intro e; have := ok.lt H e.symm; omega)
        obtain ⟨A4, c4, hv4, _, _, _⟩ := o4.slice
        rw [List.length_append, HKQ.out] at hv4
        subst hv4
        go_roundw
        case rel => exact ⟨A4, c4, s + 1, kq ++ [0], rfl, by rw [List.length_append, HKQ.out]; rfl, by omega, o4, by rw [← HKE.out, show 64 - s = (64 - (s + 1)) + 1 by omega, List.replicate_succ, List.append_assoc]; rfl, b4, hB4⟩
        case measure => simp only [slLen, List.length_singleton]; omega
      · obtain rfl : s = 64 := by omega
        obtain ⟨K, hK⟩ : ∃ K, K = keyL ksL startS key := ⟨_, rfl⟩
        have hkK : kq = K := by rw [hK, ← HKE.out]; simp
        rw [hkK] at ok
        have HKL := Lib.hid (show K.length = 64 by rw [hK]; exact keyL_len _ _ _)
        have HK := Lib.hid hK
        obtain ⟨g5, c5, hv5, hg5, hgl5, _, _⟩ := ok.pos HKL.out (by omega)
        cases hv5
        obtain ⟨B2, hB2⟩ : ∃ B2, B2 = wr.heap.size := ⟨_, rfl⟩
        rw [← hB2] at hgl5 s3
        have HB2 := Lib.hid hB2
        clear hK hkK HKE HKQ hB2
        go_wp2_with fail
        go_loopw [7, 8, 9] (fun v7 v8 i wx => ∃ k : Nat, k ≤ 64 ∧ i = .int .i64 k ∧ Own encB 5 wx B2 v7 ((K.take k).map (· ^^^ 54)) ∧ Own encB 5 wx B2 v8 ((K.take k).map (· ^^^ 92)) ∧ Sep v7 v8 ∧ Own encB 5 wx (H + 1) (.slice (some ⟨g5, 0, none⟩) 64 c3) K ∧ Blk wx H 36 (arr encB zero32) ∧ Below H w wx ∧ B2 ≤ wx.heap.size) (fun _ _ i _ => 64 - (intOf i).toNat)
        case atStart => exact ⟨0, by omega, rfl, Own.nil_ _ _ _ _, Own.nil_ _ _ _ _, (fun _ e => by cases e), ok, b3, hB3, by rw [HB2.out]; exact Nat.le_refl _⟩
        case round =>
          obtain ⟨k, hk, rfl, o7, o8, hsep, o5, b4, hB4, hsz⟩ := hrel
          clear ok b3 hB3
          have l7 := Lib.hid (show ((K.take k).map (· ^^^ (54 : UInt8))).length = k by rw [List.length_map, List.length_take, HKL.out]; omega)
          have l8 := Lib.hid (show ((K.take k).map (· ^^^ (92 : UInt8))).length = k by rw [List.length_map, List.length_take, HKL.out]; omega)
          by_cases hlt : k < 64
          · have hlt' : (k : Int) < 64 := by omega
            obtain ⟨x, hx, hc5, _⟩ := o5.at_ hlt
            have HX := Lib.hid hx
            have HSEP := Lib.hid hsep
            have O8 := Lib.hid o8
            have O5 := Lib.hid o5
            have BB := Lib.hid b4
            have HB4 := Lib.hid hB4
            clear hx hsep o8 o5 b4 hB4
            go_wp2_with (first
              | (at_builtin; refine wpList_appendO _ bTy encB_one rfl (.tmp 32) (.tmp 38) rfl B2 _ _ [x ^^^ 54] rfl (o7.alloc _) (some ⟨wr.heap.size, 0, none⟩) 1 rfl (Rd.one encB wr 5 _) (by rw [l7.out]; simp only [maxLen, List.length_singleton]; omega) (by rw [l7.out]; simp only [List.length_singleton]; omega) (by simp; omega) ?_; intro v4 w4 o4 hg4 hloc4; have k8 := (O8.out.alloc (.cells #[.int .u8 (vB (x ^^^ 54))] 5)).grown hg4 HSEP.out.symm.ne; have hsep4 : Sep v4 u8 := HSEP.out.app hloc4 (fun k e => ((O8.out.alloc (.cells #[.int .u8 (vB (x ^^^ 54))] 5)).lt k e).2); have k5 := (O5.out.alloc (.cells #[.int .u8 (vB (x ^^^ 54))] 5)).grown hg4 (.inr (fun e => by have := o7.lt g5 e.symm; omega)); have kb := (BB.out.alloc (.cells #[.int .u8 (vB (x ^^^ 54))] 5)).grown hg4 (fun e => by have := o7.lt H e.symm; omega); have kB := below_own (HB4.out.alloc (by omega) (.cells #[.int .u8 (vB (x ^^^ 54))] 5)) (o7.alloc (.cells #[.int .u8 (vB (x ^^^ 54))] 5)) (by omega) hg4 (by simp; omega); have ksz : B2 ≤ w4.heap.size := by { have := hg4.size; simp at this; omega }; obtain ⟨x', hx', hcx, _⟩ := k5.at_ hlt; have hxx : x' = x := Option.some.inj (hx'.symm.trans HX.out); rw [hxx] at hcx; clear hx' hxx)
              | (at_builtin; refine wpList_appendO _ bTy encB_one rfl (.tmp 40) (.tmp 46) rfl B2 _ _ [x ^^^ 92] rfl (k8.alloc _) (some ⟨w4.heap.size, 0, none⟩) 1 rfl (Rd.one encB w4 5 _) (by rw [l8.out]; simp only [maxLen, List.length_singleton]; omega) (by rw [l8.out]; simp only [List.length_singleton]; omega) (by simp; omega) ?_; intro v5 w5 o55 hg5' hloc5))
            have q7 := (o4.alloc (.cells #[.int .u8 (vB (x ^^^ 92))] 5)).grown hg5' hsep4.ne
            have hsep5 : Sep v4 v5 := (hsep4.symm.app hloc5 (fun k e => ((o4.alloc (.cells #[.int .u8 (vB (x ^^^ 92))] 5)).lt k e).2)).symm
            have q5 := (k5.alloc (.cells #[.int .u8 (vB (x ^^^ 92))] 5)).grown hg5' (.inr (fun e => by have := k8.lt g5 e.symm; omega))
            have qb := (kb.alloc (.cells #[.int .u8 (vB (x ^^^ 92))] 5)).grown hg5' (fun e => by have := k8.lt H e.symm; omega)
            have qB := below_own (kB.alloc (by omega) (.cells #[.int .u8 (vB (x ^^^ 92))] 5)) (k8.alloc (.cells #[.int .u8 (vB (x ^^^ 92))] 5)) (by omega) hg5' (by simp; omega)
            have qsz : B2 ≤ w5.heap.size := by { have := hg5'.size; simp at this; omega }
            rw [take_map_snoc _ HX.out] at q7
            rw [take_map_snoc _ HX.out] at o55
            go_roundw
            case rel => exact ⟨k + 1, by omega, by go_num, q7, o55, hsep5, q5, qb, qB, qsz⟩
            case measure => simp [intOf]; omega
          · obtain rfl : k = 64 := by omega
            rw [List.take_of_length_le (by rw [HKL.out]; exact Nat.le_refl _)] at o7 o8
            have e7 := Lib.hid (show (K.map (· ^^^ (54 : UInt8))).length = 64 by rw [List.length_map, HKL.out])
            have e8 := Lib.hid (show (K.map (· ^^^ (92 : UInt8))).length = 64 by rw [List.length_map, HKL.out])
            have rm := HP1.out.below (HH.out ▸ hB4)
            have O7 := Lib.hid o7
            have O8 := Lib.hid o8
            have HSEP := Lib.hid hsep
            clear l7 l8 o5 o7 o8 hsep
            go_wp2_with (at_builtin; refine wpList_appendO _ bTy encB_one rfl (.tmp 48) (.tmp 49) rfl B2 _ _ msg rfl O7.out B d (by rw [HM.out]; rfl) rm (by rw [e7.out, HM.out]; simp only [maxLen]; omega) (by rw [e7.out, HM.out]; omega) hsz ?_; intro v5 w5 o5 hg5' hloc5)
            have k8 := Lib.hid (O8.out.grown hg5' HSEP.out.symm.ne)
            have kb := b4.grown hg5' (fun e => by have := O7.out.lt H e.symm; omega)
            have kB := Lib.hid (below_own hB4 O7.out (by omega) hg5' (by omega))
            have ksz : B2 ≤ w5.heap.size := by { have := hg5'.size; omega }
            obtain ⟨A5, c5, hv5, _, r5, _⟩ := o5.slice
            have eL := Lib.hid (show (K.map (· ^^^ (54 : UInt8)) ++ msg).length = 64 + m by rw [List.length_append, e7.out, HM.out])
            rw [eL.out] at hv5
            subst hv5
            have g6 := Lib.hid (refSum_any A5 c5 (64 + m) _ w5 eL.out (by omega) r5 (HTB.out.below (HH.out ▸ kB.out)) (HTQ.out.below (HH.out ▸ kB.out)))
            obtain ⟨F, hF⟩ : ∃ F, F = digestL ksL startS (K.map (· ^^^ (54 : UInt8)) ++ msg) := ⟨_, rfl⟩
            rw [← hF] at g6
            have HF := Lib.hid hF
            have HNF := Lib.hid (show F.length = 32 by rw [hF]; exact digestL_len _ _ _)
            clear hF O7 O8 HSEP rm hg5' hloc5 o5 r5 b4 hB4
            go_wp2_with fail
            with_reducible refine g6.out.mono ?_
            rintro e w6 ⟨rfl, hB6⟩
            have b6 := kb.below hB6 kb.lt
            have o86 := k8.out.below hB6
            have C6 := kB.out.trans (hB6.mono (by omega))
            have z6 : B2 ≤ w6.heap.size := by have := hB6.size; omega
            obtain ⟨R3, hR3⟩ : ∃ R, R = w6.heap.size := ⟨_, rfl⟩
            have HR3 := Lib.hid hR3
            have lR3 : B2 ≤ R3 := by rw [hR3]; exact z6
            have q0 : Blk (w6.alloc (.cells (arr encB zero32) 36)) R3 36 (arr encB zero32) := by rw [HR3.out]; exact Blk.new w6 _ _
            have HB6 := Lib.hid (C6.alloc (by omega) (.cells (arr encB zero32) 36))
            have b6a := b6.alloc (.cells (arr encB zero32) 36)
            have o86a := o86.alloc (.cells (arr encB zero32) 36)
            have hne := o86a.blk_ne q0 (by decide)
            clear hR3 hB6 C6 g6 kb b6 k8 o86 z6
            go_wp2_with (first
              | rw [← HR3.out]
              | ((with_reducible refine wpList_store_blk rfl 36 (.tmp 10) (.tmp 52) rfl R3 36 (arr encB zero32) (arr encB F) ?hb rfl rfl (arrSz HNF.out) ?hl (arr_one encB_one _) ?_); (case hb => exact q0); (case hl => rw [arr_size, arr_size, zero32_len, HNF.out]); intro w7 b7 hg7 hs7; have p7 := b6a.grown hg7 (by intro e; cases e; omega); have o87 := Lib.hid (o86a.grown hg7 (.inr hne)); have B7 := Lib.hid (below_only HB6.out hg7 (by have := HB6.out.size; have := HH.out; omega) (by omega)); have s7 : B2 ≤ w7.heap.size := by { have := HR3.out; rw [hs7]; simp; omega }; clear hs7)
              | (at_builtin; refine wpList_appendO _ bTy encB_one rfl (.tmp 53) (.tmp 54) rfl B2 _ _ F rfl o87.out (some ⟨R3, 0, none⟩) 32 (by rw [HNF.out]; rfl) (rd_blk b7) (by rw [e8.out, HNF.out]; simp only [maxLen]; omega) (by rw [e8.out, HNF.out]; omega) s7 ?_; intro v8' w8 o88 hg8 hloc8))
            have p8 := p7.grown hg8 (fun e => by have := o87.out.lt H e.symm; omega)
            have B8 := Lib.hid (below_own B7.out o87.out (by omega) hg8 (by omega))
            obtain ⟨A8, c8, hv8, _, r8, _⟩ := o88.slice
            have eM := Lib.hid (show (K.map (· ^^^ (92 : UInt8)) ++ F).length = 96 by rw [List.length_append, e8.out, HNF.out])
            rw [eM.out] at hv8
            subst hv8
            have g9 := refSum_any A8 c8 96 _ w8 eM.out (by omega) r8 (HTB.out.below (HH.out ▸ B8.out)) (HTQ.out.below (HH.out ▸ B8.out))
            rw [show digestL ksL startS (K.map (· ^^^ (92 : UInt8)) ++ F) = macL ksL startS key msg by rw [HF.out, HK.out]; rfl] at g9
            have G9 := Lib.hid g9
            have HND := Lib.hid (show (macL ksL startS key msg).length = 32 from digestL_len _ _ _)
            obtain ⟨D, hD⟩ : ∃ D, D = macL ksL startS key msg := ⟨_, rfl⟩
            have HD := Lib.hid hD
            rw [← hD] at G9 HND
            clear hD
            clear g9 hg8 hloc8 o88 r8 q0 hne b6a o86a b7
            go_wp2_with fail
            with_reducible refine G9.out.mono ?_
            rintro e w9 ⟨rfl, hB9⟩
            have p9 := p8.below hB9 p8.lt
            have C9 := B8.out.trans (hB9.mono (by have := p8.lt; omega))
            clear G9 hB9 p8
            go_wp2_with (first
              | ((with_reducible refine wpList_store_blk rfl 36 (.tmp 4) (.tmp 57) rfl w.heap.size 36 (arr encB zero32) (arr encB D) ?hb rfl rfl (arrSz HND.out) ?hl (arr_one encB_one _) ?_); (case hb => (rw [← HH.out]; exact p9)); (case hl => rw [arr_size, arr_size, zero32_len, HND.out]); intro wA bA hgA hsA))
            have CA : Below w.heap.size w wA := by rw [← HH.out] at hgA ⊢; exact below_only C9 hgA (by have := p9.lt; omega) (Nat.le_refl _)
            refine bodyPost_cell rfl w.heap.size 36 _ (0, 0) _ rfl bA arrTy rfl (arrSz HND.out) rfl ⟨by rw [HD.out], CA⟩
end Go.Proofs.YtepikbmlhejobaaDoor
