/- Package replicalaw09: the Book's keep, the list written at once, by contract. -/
import Derived.Test.YtkjbjfjgnponfaaLkBk
namespace Go.Proofs.Ytkjbjfjgnponfaa
open Go.RowKit
set_option linter.unusedSimpArgs false
set_option linter.unusedVariables false
section
variable {base B : Nat} {w wr w8 : World} {late : Bool} {A A0 A0' A2 A3 : Option Addr} {c c0 c0' c2 c3 n : Nat} {Ls Rw Ws : List SV} {s : SV} {m : Int}
theorem ko_blk_ne {A : Option Addr} {l : List Int} {k t : Nat} {cs : Array Value} (h : KO wr A c l) (hb : Blk wr k t cs) (ht : t ≠ 3) : ¬ blkOf A k := fun hk => by
  obtain ⟨a, e, rfl⟩ := hk
  obtain ⟨cs2, hb2⟩ := h.blk e
  exact blk_type_ne hb hb2 ht rfl
/-- a list's cells are written: the Book stays -/
theorem BkS.fill {l : List Int} (h : BkS base w B late A0 A2 A3 c0 c2 c3 Ls Rw Ws) (hl : late = false) (hC : Chg (fun k _ => blkOf A k) w wr) (hA : KO w A c l) (hsep : ∀ k, blkOf A k → ∀ (i : Nat) (s : SV), Ls[i]? = some s → ¬ blkOf s.1 k)
    (hK : KO wr A c (List.replicate n m)) (hraw : ∀ (i : Nat) (s : SV), Rw[i]? = some s → (∀ k, blkOf s.1 k → ¬ blkOf A k) ∨ s = (A, n, c)) (hwas : ∀ (i : Nat) (s : SV), Ws[i]? = some s → ∀ k, blkOf s.1 k → ¬ blkOf A k) : BkS base wr B late A0 A2 A3 c0 c2 c3 Ls Rw Ws := by
  have hg : ∀ (A1 : Option Addr) (c : Nat) (l : List SV), GSl encS 1 29 w A1 c l → GSl encS 1 29 wr A1 c l := fun A1 c l hg => hg.chg hC encS_len fun g i hs hf => by
    obtain ⟨o, e, _⟩ := hs
    obtain ⟨cs, hb⟩ := g_blk hg ⟨_, e, rfl⟩
    exact ko_blk_ne hA hb (by decide) hf
  have hk : ∀ (A1 : Option Addr) (c : Nat) (l : List Int), KO w A1 c l → (∀ k, blkOf A1 k → ¬ blkOf A k) → KO wr A1 c l := fun A1 c l hk hn => hk.chg hC fun ad e i hf => hn _ ⟨ad, e, rfl⟩ hf
  refine ⟨hC.blk h.blk fun i hf => ko_blk_ne hA h.blk (by decide) hf, hg _ _ _ h.g0, hg _ _ _ h.g2, hg _ _ _ h.g3, h.l0, h.l2, h.l3, h.s02, h.s03, h.s23, h.hB, fun i s hs => hk _ _ _ (h.lists i s hs) fun k h1 h2 => hsep k h2 i s hs h1, fun i s hs => ?_, fun i s hs => ?_, h.rlen, fun e => by rw [hl] at e; cases e⟩
  · rcases hraw i s hs with h1 | h1
    · obtain ⟨l, k1, k2⟩ := h.raws i s hs
      exact ⟨l, hk _ _ _ k1 h1, k2⟩
    · subst h1
      exact ⟨_, hK, List.length_replicate ..⟩
  · obtain ⟨l, k1, k2⟩ := h.was i s hs
    exact ⟨l, hk _ _ _ k1 (hwas i s hs), k2⟩
/-- one list more -/
theorem BkS.push (h : BkS base wr B late A0 A2 A3 c0 c2 c3 Ls Rw Ws) (hl : late = false) (h8 : GSl encS 1 29 w8 A0' c0' (Ls ++ [s])) (k8 : Chg (slFp 1 A0 Ls.length c0) wr w8) (q8 : (A0' = A0 ∧ c0' = c0) ∨ ∃ g, A0' = some ⟨g, 0, none⟩ ∧ wr.heap.size ≤ g) (hs : KO wr s.1 s.2.2 (List.replicate s.2.1 (mark Ls.length))) :
    BkS base (w8.setCell ⟨B, 0, none⟩ (.slice A0' (Ls ++ [s]).length c0')) B late A0' A2 A3 c0' c2 c3 (Ls ++ [s]) Rw Ws ∧ Chg (fun k _ => k = B ∨ blkOf A0 k) wr (w8.setCell ⟨B, 0, none⟩ (.slice A0' (Ls ++ [s]).length c0')) ∧ w8.cell? ⟨B, 0, none⟩ = some (.slice A0 Ls.length c0) ∧ w8.frozen? ⟨B, 0, none⟩ = false := by
  have hset : Chg (fun k _ => k = B) w8 (w8.setCell ⟨B, 0, none⟩ (.slice A0' (Ls ++ [s]).length c0')) := Chg.setCell (fun k _ => k = B) _ (show B = B from rfl) _
  have k8' : Chg (fun k _ => blkOf A0 k) wr w8 := k8.mono fun k i _ hf => slFp_blk hf
  have hCC : Chg (fun k _ => k = B ∨ blkOf A0 k) wr (w8.setCell ⟨B, 0, none⟩ (.slice A0' (Ls ++ [s]).length c0')) := (k8'.mono fun k i _ hf => .inr hf).trans hset fun k i _ hf => .inl hf
  have hb8 : Blk w8 B 57 #[.slice A0 Ls.length c0, .bool late, .slice A2 Rw.length c2, .slice A3 Ws.length c3] := k8'.blk h.blk fun i hf => by
    obtain ⟨cs, hb⟩ := g_blk h.g0 hf
    exact blk_type_ne hb h.blk (by decide) rfl
  have hg : ∀ (A1 : Option Addr) (c : Nat) (l : List SV), GSl encS 1 29 wr A1 c l → (∀ k, blkOf A0 k → ¬ blkOf A1 k) → GSl encS 1 29 (w8.setCell ⟨B, 0, none⟩ (.slice A0' (Ls ++ [s]).length c0')) A1 c l := fun A1 c l hg hn => hg.chg hCC encS_len fun g i hs hf => by
    obtain ⟨o, e, _⟩ := hs
    rcases hf with hf | hf
    · obtain ⟨cs, hb⟩ := g_blk hg ⟨_, e, rfl⟩
      exact blk_type_ne hb h.blk (by decide) hf
    · exact hn g hf ⟨_, e, rfl⟩
  have hk : ∀ (A1 : Option Addr) (c : Nat) (l : List Int), KO wr A1 c l → KO (w8.setCell ⟨B, 0, none⟩ (.slice A0' (Ls ++ [s]).length c0')) A1 c l := fun A1 c l hk => hk.chg hCC fun ad e i hf => by
    rcases hf with hf | hf
    · obtain ⟨cs, hb⟩ := hk.blk e
      exact blk_type_ne hb h.blk (by decide) hf
    · obtain ⟨cs, hb⟩ := g_blk h.g0 hf
      obtain ⟨cs2, hb2⟩ := hk.blk e
      exact blk_type_ne hb hb2 (by decide) rfl
  have hnew : ∀ k, blkOf A0' k → blkOf A0 k ∨ wr.heap.size ≤ k := fun k hk => by
    rcases q8 with ⟨e1, _⟩ | ⟨g, e1, hg⟩
    · rw [e1] at hk; exact .inl hk
    · obtain ⟨a, e, rfl⟩ := hk
      rw [e1] at e; cases e; exact .inr hg
  refine ⟨⟨hb8.set_ 0 _, h8.chg hset encS_len fun g i hs e => ?_, hg _ _ _ h.g2 h.s02, hg _ _ _ h.g3 h.s03, ?_, h.l2, h.l3, fun k h1 h2 => ?_, fun k h1 h2 => ?_, h.s23, h.hB, fun i t ht => ?_, fun i t ht => ?_, fun i t ht => ?_, h.rlen, fun e => by rw [hl] at e; cases e⟩, hCC, hb8.cell 0, hb8.frozen 0⟩
  · obtain ⟨o, e2, _⟩ := hs
    obtain ⟨cs, hb⟩ := g_blk h8 ⟨_, e2, rfl⟩
    exact blk_type_ne hb hb8 (by decide) e
  · rcases q8 with ⟨e1, _⟩ | ⟨g, e1, hg⟩
    · rw [e1]; exact h.l0
    · exact .inr ⟨g, e1, by have := h.hB; have := h.blk.lt; omega⟩
  · rcases hnew k h1 with h3 | h3
    · exact h.s02 k h3 h2
    · obtain ⟨cs, hb⟩ := g_blk h.g2 h2
      have := hb.lt
      omega
  · rcases hnew k h1 with h3 | h3
    · exact h.s03 k h3 h2
    · obtain ⟨cs, hb⟩ := g_blk h.g3 h2
      have := hb.lt
      omega
  · by_cases hi : i < Ls.length
    · rw [List.getElem?_append_left hi] at ht
      exact hk _ _ _ (h.lists i t ht)
    · rw [List.getElem?_append_right (by omega)] at ht
      have hil := (List.getElem?_eq_some_iff.1 ht).1
      simp at hil
      obtain rfl : i = Ls.length := by omega
      simp at ht
      subst ht
      exact hk _ _ _ hs
  · obtain ⟨l, k1, k2⟩ := h.raws i t ht
    exact ⟨l, hk _ _ _ k1, k2⟩
  · obtain ⟨l, k1, k2⟩ := h.was i t ht
    exact ⟨l, hk _ _ _ k1, k2⟩
end
/-- a number of a list is written -/
theorem KO.set_ {wr : World} {g c i : Nat} {l : List Int} (h : KO wr (some ⟨g, 0, none⟩) c l) (hi : i < l.length) (x : Int) : KO (wr.setCell ⟨g, i, none⟩ (.int .i64 x)) (some ⟨g, 0, none⟩) c (l.set i x) := by
  refine ⟨?_, h.2⟩
  rcases h.1 with ⟨h2, _⟩ | ⟨g2, o2, cs, h2, k1, k2, k3, k4, k5⟩
  · cases h2
  · cases h2
    have b1 : Blk wr g 3 cs := k3
    refine .inr ⟨g, 0, cs.setIfInBounds i (.int .i64 x), rfl, by rw [List.length_set]; exact k1, k2, b1.set_ _ _, by simpa using k4, fun j y hy q v hv => ?_⟩
    have hq : q = 0 := by
      have := (List.getElem?_eq_some_iff.1 hv).1
      rw [enc1_len] at this
      omega
    subst hq
    by_cases e : j = i
    · subst e
      rw [List.getElem?_set_self hi] at hy
      cases hy
      rw [show 0 + (j * 1 + 0) = j by omega, Array.getElem?_setIfInBounds_self_of_lt (by omega)]
      exact hv
    · rw [List.getElem?_set_ne (fun e2 => e e2.symm)] at hy
      rw [Array.getElem?_setIfInBounds_ne (by omega)]
      exact k5 j y hy 0 v hv
theorem fill_step {l : List Int} {i : Nat} {m : Int} (hi : i < l.length) : (List.replicate i m ++ l.drop i).set i m = List.replicate (i + 1) m ++ l.drop (i + 1) := by
  rw [List.set_append_right _ _ (by simp), List.length_replicate, Nat.sub_self, List.drop_eq_getElem_cons hi, List.set_cons_zero, List.replicate_succ', List.append_assoc]
  rfl
set_option maxRecDepth 20000 in
set_option maxHeartbeats 16000000 in
theorem keepE_any (base B ln n c : Nat) (A A0 A2 A3 : Option Addr) (c0 c2 c3 : Nat) (Ls Rw Ws : List SV) (l : List Int) (w : World) (h : BkS base w B false A0 A2 A3 c0 c2 c3 Ls Rw Ws) (hln : Ls.length = ln) (hev : ln % 2 = 0) (hlb : ln ≤ 1000000000000) (hK : KO w A c l) (hn : l.length = n) (hnb : n ≤ 7000000000000)
    (hsep : ∀ k, blkOf A k → ∀ (i : Nat) (s : SV), Ls[i]? = some s → ¬ blkOf s.1 k) (hraw : ∀ (i : Nat) (s : SV), Rw[i]? = some s → (∀ k, blkOf s.1 k → ¬ blkOf A k) ∨ s = (A, n, c)) (hwas : ∀ (i : Nat) (s : SV), Ws[i]? = some s → ∀ k, blkOf s.1 k → ¬ blkOf A k) :
    Calls Try.prog 42 #[.pointer (some ⟨B, 0, none⟩), .slice A n c] w fun e w' => e = .returned (.tuple #[]) ∧ ∃ (A0' : Option Addr) (c0' : Nat) (Ag : Option Addr) (gc : Nat), BkS base w' B false A0' A2 A3 c0' c2 c3 (Ls ++ [(A, n, c), (Ag, n + 80, gc)]) Rw Ws ∧ Chg (fun k _ => k = B ∨ blkOf A0 k ∨ blkOf A k) w w' ∧ (∀ k, blkOf A0' k → blkOf A0 k ∨ w.heap.size ≤ k) ∧ (∀ k, blkOf Ag k → blkOf A k ∨ w.heap.size ≤ k) := by
  have H := Lib.hid h
  have b0 : w.cell? ⟨B, 0, none⟩ = some (.slice A0 ln c0) := by rw [← hln]; exact h.blk.cell 0
  have b1 : w.cell? ⟨B, 1, none⟩ = some (.bool false) := h.blk.cell 1
  have HLN := Lib.hid hln
  have HK := Lib.hid hK
  have HN := Lib.hid hn
  have HSEP := Lib.hid hsep
  have HRAW := Lib.hid hraw
  have HWAS := Lib.hid hwas
  obtain ⟨m, hm⟩ : ∃ m, m = mark ln := ⟨_, rfl⟩
  have hme : (-1000000 : Int) - (ln : Int) = m := by rw [hm]; unfold mark; omega
  have hm1 : mark (ln + 1) = m := by rw [hm]; unfold mark; omega
  have hmb : -9000000000000 ≤ m ∧ m ≤ 0 := by omega
  have HME := Lib.hid hme
  have HM := Lib.hid hm
  have HM1 := Lib.hid hm1
  clear h hln hK hn hsep hraw hwas hm hme hm1 hev
  go_enter Try.func42, Try.ntmps42
  go_wp2_with fail
  rw [HME.out]
  go_loopw [5] (fun t5 wr => ∃ i : Nat, i ≤ n ∧ t5 = .int .i64 (i : Int) ∧ Hid (KO wr A c (List.replicate i m ++ l.drop i)) ∧ Hid (Chg (fun k _ => blkOf A k) w wr)) (fun t5 _ => n - (intOf t5).toNat)
  case atStart => exact ⟨0, Nat.zero_le _, rfl, Lib.hid (by simpa using HK.out), Lib.hid (Chg.refl _ _)⟩
  case round =>
    clear b0 b1
    obtain ⟨i, hi, rfl, hKi, hC⟩ := hrel
    by_cases hli : i < n
    · have hli' : (i : Int) < (n : Int) := by omega
      obtain ⟨g, hA⟩ : ∃ g, A = some ⟨g, 0, none⟩ := by
        rcases HK.out.2 with h1 | h1
        · exfalso
          have h2 := HK.out.kept.1 0 (l[0]'(by rw [HN.out]; omega)) (List.getElem?_eq_getElem _)
          obtain ⟨ad, e, _⟩ := h2
          rw [h1] at e; cases e
        · exact h1
      have hll : (List.replicate i m ++ l.drop i).length = n := by rw [List.length_append, List.length_replicate, List.length_drop, HN.out]; omega
      obtain ⟨y, hy⟩ : ∃ y, (List.replicate i m ++ l.drop i)[i]? = some y := ⟨_, List.getElem?_eq_getElem (by rw [hll]; exact hli)⟩
      subst hA
      have hcc : wr.cell? ⟨g, i, none⟩ = some (.int .i64 y) := by
        obtain ⟨ad, e, hc⟩ := hKi.out.kept.1 i y hy
        cases e
        rw [add_lit_, Nat.zero_add] at hc
        exact hc
      have hcf : wr.frozen? ⟨g, i, none⟩ = false := by
        obtain ⟨cs, hb⟩ := hKi.out.blk rfl
        exact hb.frozen i
      have hnext := Lib.hid (show KO (wr.setCell ⟨g, i, none⟩ (.int .i64 m)) (some ⟨g, 0, none⟩) c (List.replicate (i + 1) m ++ l.drop (i + 1)) by
        rw [← fill_step (by rw [HN.out]; exact hli)]
        exact hKi.out.set_ (by rw [hll]; exact hli) m)
      have hCn := Lib.hid (hC.out.trans (Chg.setCell (fun k _ => k = g) wr (i := i) (show g = g from rfl) (.int .i64 m)) fun k _ _ e => ⟨_, rfl, e.symm⟩)
      clear hy hll
      go_wp2
      go_roundw
      case rel => exact ⟨i + 1, by omega, by go_num, hnext, hCn⟩
      case measure => simp [intOf]; omega
    · obtain rfl : i = n := by omega
      have hKn := Lib.hid (show KO wr A c (List.replicate i m) by
        have := hKi.out
        rwa [List.drop_of_length_le (by rw [HN.out]; exact Nat.le_refl _), List.append_nil] at this)
      clear hKi
      go_wp2_with fail
      go_loopw [6, 7] (fun t6 t7 wr => ∃ (j : Nat) (Ag : Option Addr) (gc : Nat), j ≤ 80 ∧ t7 = .int .i64 (j : Int) ∧ t6 = .slice Ag (i + j) gc ∧ Hid (KO wr Ag gc (List.replicate (i + j) m)) ∧ Hid (KO wr A c (List.replicate i m)) ∧ Hid ((Ag = A ∧ gc = c) ∨ ∃ g, Ag = some ⟨g, 0, none⟩ ∧ w.heap.size ≤ g) ∧ Hid (Chg (fun k _ => blkOf A k) w wr)) (fun _ t7 _ => 80 - (intOf t7).toNat)
      case atStart => exact ⟨0, A, c, Nat.zero_le _, rfl, rfl, hKn, hKn, Lib.hid (.inl ⟨rfl, rfl⟩), hC⟩
      case round =>
        clear hKn hC
        obtain ⟨j, Ag, gc, hj, rfl, rfl, hKg, hKn, hloc, hC⟩ := hrel
        by_cases hlj : j < 80
        · have hlj' : (j : Int) < 80 := by omega
          have KA := Lib.hid (hKg.out.1.chg (Chg.alloc (fun _ _ => False) wr (.cells #[.int .i64 m] 3)) enc1_len fun _ _ _ h => h)
          have Rn := Lib.hid (show RdS enc1 1 (wr.alloc (.cells #[.int .i64 m] 3)) (some ⟨wr.heap.size, 0, none⟩) [m] from RdS.new1 enc1 1 wr 3 m)
          obtain ⟨gn, hgn⟩ : ∃ gn, gn = i + j := ⟨_, rfl⟩
          have hgb : gn ≤ 7000000000080 := by omega
          have HGN := Lib.hid hgn
          have LR := Lib.hid (show (List.replicate (i + j) m).length = gn by rw [List.length_replicate, hgn])
          rw [← hgn]
          clear hgn
          go_wp2_with (
            at_builtin
            refine wpList_appendG intTy (by decide) enc1_len enc1_one rfl (.tmp 55) (.tmp 57) rfl Ag gc (List.replicate (i + j) m) (by rw [LR.out]; rfl) KA.out (some ⟨wr.heap.size, 0, none⟩) 1 [m] rfl Rn.out (by rw [LR.out]; simp only [maxLen, List.length_singleton]; omega) (by rw [LR.out]; simp only [List.length_singleton]; omega) ?_
            intro A6 c6 w8 h8 k8 q8
            have hlen8 : (List.replicate (i + j) m ++ [m]).length = gn + 1 := by rw [List.length_append, LR.out]; rfl
            rw [hlen8]
            have kk : Chg (slFp 1 Ag (List.replicate (i + j) m).length gc) wr w8 := (Chg.alloc (slFp 1 Ag (List.replicate (i + j) m).length gc) wr (.cells #[.int .i64 m] 3)).trans k8 fun _ _ _ h => h
            have K8 := Lib.hid (show KO w8 A6 c6 (List.replicate (i + (j + 1)) m) from by
              rw [show i + (j + 1) = (i + j) + 1 by omega, List.replicate_succ']
              refine ⟨h8, ?_⟩
              rcases q8 with ⟨e1, _⟩ | ⟨g2, e1, _⟩
              · rw [e1]; exact hKg.out.2
              · exact .inr ⟨g2, e1⟩)
            have KN := Lib.hid (show KO w8 A c (List.replicate i m) from ⟨hKn.out.1.chg kk enc1_len fun g2 i2 hs hf => by
              obtain ⟨o, e, _, h3⟩ := hs
              obtain ⟨o', e', h4, _⟩ := hf
              rw [List.length_replicate] at h3 h4
              rcases hloc.out with ⟨e1, _⟩ | ⟨g3, e1, hg3⟩
              · rw [e1, e] at e'
                cases e'
                omega
              · rw [e1] at e'
                have h5 : g2 < w.heap.size := HK.out.lt e
                have h6 : g3 = g2 := by injection e' with e'; injection e'
                omega, hKn.out.2⟩)
            have L8 := Lib.hid (show (A6 = A ∧ c6 = c) ∨ ∃ g, A6 = some ⟨g, 0, none⟩ ∧ w.heap.size ≤ g from by
              rcases q8 with ⟨e1, e2⟩ | ⟨g2, e1, hg2⟩
              · rw [e1, e2]; exact hloc.out
              · exact .inr ⟨g2, e1, by have := hC.out.size; simp at hg2; omega⟩)
            have C8 := Lib.hid (hC.out.trans kk fun k i2 hk hf => by
              rcases hloc.out with ⟨e1, _⟩ | ⟨g3, e1, hg3⟩
              · rw [e1] at hf; exact slFp_blk hf
              · obtain ⟨ad, ea, e⟩ := slFp_blk hf
                rw [e1] at ea
                cases ea
                have e3 : g3 = k := e
                omega)
            clear h8 k8 q8 hlen8 kk
            )
          go_roundw
          case rel => exact ⟨j + 1, A6, c6, by omega, by go_num, by rw [HGN.out]; rfl, K8, KN, L8, C8⟩
          case measure => simp [intOf]; omega
        · obtain rfl : j = 80 := by omega
          have B1 := Lib.hid (H.out.fill rfl hC.out HK.out HSEP.out hKn.out HRAW.out HWAS.out)
          obtain ⟨gn, hgn⟩ : ∃ gn, gn = i + 80 := ⟨_, rfl⟩
          rw [← hgn] at hKg ⊢
          have HGN := Lib.hid hgn
          have b0 : wr.cell? ⟨B, 0, none⟩ = some (.slice A0 ln c0) := by rw [← HLN.out]; exact B1.out.blk.cell 0
          have Ga := Lib.hid (B1.out.g0.chg (Chg.alloc (fun _ _ => False) wr (.cells #[.slice A i c] 29)) encS_len fun _ _ _ h => h)
          have Rn := Lib.hid (show RdS encS 1 (wr.alloc (.cells #[.slice A i c] 29)) (some ⟨wr.heap.size, 0, none⟩) [(A, i, c)] from RdS.new1 encS 1 wr 29 (A, i, c))
          clear hgn
          go_upto_region 14 with (
            at_builtin
            refine wpList_appendG sTy (by decide) encS_len encS_one rfl (.tmp 63) (.tmp 65) rfl A0 c0 Ls (by rw [HLN.out]; rfl) Ga.out (some ⟨wr.heap.size, 0, none⟩) 1 [(A, i, c)] rfl Rn.out (by rw [HLN.out]; simp only [maxLen, List.length_singleton]; omega) (by rw [HLN.out]; simp only [List.length_singleton]; omega) ?_
            intro A6 c6 w8 h8 k8 q8
            have hlen8 : (Ls ++ [(A, i, c)]).length = ln + 1 := by rw [List.length_append, HLN.out]; rfl
            have Ba := B1.out.below ((Below.refl wr.heap.size wr).alloc (Nat.le_refl _) (.cells #[.slice A i c] 29))
            obtain ⟨P1, P2, P3, P4⟩ := Ba.push rfl h8 k8 q8 (by
              rw [HLN.out, ← HM.out]
              exact hKn.out.below ((Below.refl wr.heap.size wr).alloc (Nat.le_refl _) _))
            rw [hlen8] at P1 P2 ⊢
            rw [HLN.out] at P3
            have B2 := Lib.hid P1
            have C2 := Lib.hid ((Chg.alloc (fun k _ => k = B ∨ blkOf A0 k) wr (.cells #[.slice A i c] 29)).trans P2 fun _ _ _ h => h)
            have HL8 := Lib.hid hlen8
            have Q8 := Lib.hid (show ∀ k, blkOf A6 k → blkOf A0 k ∨ wr.heap.size ≤ k from fun k hk => by
              rcases q8 with ⟨e1, _⟩ | ⟨g2, e1, hg2⟩
              · rw [e1] at hk; exact .inl hk
              · obtain ⟨a, e, rfl⟩ := hk
                rw [e1] at e; cases e
                simp at hg2
                right
                show wr.heap.size ≤ g2
                omega)
            have Kg2 := Lib.hid (hKg.out.chg C2.out fun ad e _ hf => by
              obtain ⟨cs, hb⟩ := hKg.out.blk e
              rcases hf with hf | hf
              · exact blk_type_ne hb B1.out.blk (by decide) hf
              · obtain ⟨cs2, hb2⟩ := g_blk B1.out.g0 hf
                exact blk_type_ne hb hb2 (by decide) rfl)
            have b0' : (w8.setCell ⟨B, 0, none⟩ (.slice A6 (ln + 1) c6)).cell? ⟨B, 0, none⟩ = some (.slice A6 (ln + 1) c6) := by
              have h9 := B2.out.blk.cell 0
              rw [HL8.out] at h9
              exact h9
            clear h8 k8 q8 hlen8 Ba P1 P2
            )
          obtain ⟨wq, hwq⟩ : ∃ wq, wq = w8.setCell ⟨B, 0, none⟩ (.slice A6 (ln + 1) c6) := ⟨_, rfl⟩
          have Ga2 := Lib.hid ((show GSl encS 1 29 wq A6 c6 (Ls ++ [(A, i, c)]) from by rw [hwq]; exact B2.out.g0).chg (Chg.alloc (fun _ _ => False) wq (.cells #[.slice Ag gn gc] 29)) encS_len fun _ _ _ h => h)
          have Rn2 := Lib.hid (show RdS encS 1 (wq.alloc (.cells #[.slice Ag gn gc] 29)) (some ⟨wq.heap.size, 0, none⟩) [(Ag, gn, gc)] from RdS.new1 encS 1 wq 29 (Ag, gn, gc))
          have HWQ := Lib.hid hwq
          rw [← hwq] at B2 C2 Kg2 b0' ⊢
          clear hwq
          go_wp2_with (
            at_builtin
            refine wpList_appendG sTy (by decide) encS_len encS_one rfl (.tmp 73) (.tmp 75) rfl A6 c6 (Ls ++ [(A, i, c)]) (by rw [HL8.out]; rfl) Ga2.out (some ⟨wq.heap.size, 0, none⟩) 1 [(Ag, gn, gc)] rfl Rn2.out (by rw [HL8.out]; simp only [maxLen, List.length_singleton]; omega) (by rw [HL8.out]; simp only [List.length_singleton]; omega) ?_
            intro A7 c7 w9 h8 k8 q8
            have hlen8 : ((Ls ++ [(A, i, c)]) ++ [(Ag, gn, gc)]).length = ln + 2 := by rw [List.length_append, HL8.out]; rfl
            have Ba := B2.out.below ((Below.refl wq.heap.size wq).alloc (Nat.le_refl _) (.cells #[.slice Ag gn gc] 29))
            obtain ⟨P1, P2, P3, P4⟩ := Ba.push rfl h8 k8 q8 (by
              rw [HL8.out, HM1.out]
              exact Kg2.out.below ((Below.refl wq.heap.size wq).alloc (Nat.le_refl _) _))
            rw [hlen8] at P1 P2 ⊢
            rw [HL8.out] at P3
            have B3 := Lib.hid P1
            have C3 := Lib.hid ((Chg.alloc (fun k _ => k = B ∨ blkOf A6 k) wq (.cells #[.slice Ag gn gc] 29)).trans P2 fun _ _ _ h => h)
            have Q9 := Lib.hid (show ∀ k, blkOf A7 k → blkOf A6 k ∨ wq.heap.size ≤ k from fun k hk => by
              rcases q8 with ⟨e1, _⟩ | ⟨g2, e1, hg2⟩
              · rw [e1] at hk; exact .inl hk
              · obtain ⟨a, e, rfl⟩ := hk
                rw [e1] at e; cases e
                simp at hg2
                right
                show wq.heap.size ≤ g2
                omega)
            have HL9 := Lib.hid hlen8
            clear h8 k8 q8 hlen8 Ba P1 P2
            )
          go_end0
          have z1 : w.heap.size ≤ wr.heap.size := hC.out.size
          have z2 : wr.heap.size ≤ wq.heap.size := C2.out.size
          refine ⟨rfl, A7, c7, Ag, gc, ?_, ?_, fun k hk => ?_, fun k hk => ?_⟩
          · rw [← HGN.out]
            have := B3.out
            rw [List.append_assoc] at this
            exact this
          · refine ((hC.out.mono fun k _ _ hf => .inr (.inr hf)).trans C2.out fun k _ hk hf => ?_).trans C3.out fun k _ hk hf => ?_
            · rcases hf with hf | hf
              · exact .inl hf
              · exact .inr (.inl hf)
            · rcases hf with hf | hf
              · exact .inl hf
              · rcases Q8.out k hf with h1 | h1
                · exact .inr (.inl h1)
                · omega
          · rcases Q9.out k hk with h1 | h1
            · rcases Q8.out k h1 with h2 | h2
              · exact .inl h2
              · exact .inr (by omega)
            · exact .inr (by omega)
          · rcases hloc.out with ⟨e1, _⟩ | ⟨g3, e1, hg3⟩
            · rw [e1] at hk; exact .inl hk
            · obtain ⟨a, e, rfl⟩ := hk
              rw [e1] at e; cases e
              exact .inr hg3
end Go.Proofs.Ytkjbjfjgnponfaa
