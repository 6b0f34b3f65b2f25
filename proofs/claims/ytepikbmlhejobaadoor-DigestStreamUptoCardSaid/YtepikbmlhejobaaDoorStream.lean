/- DigestStream: three Hashes side by side. (Under way.) -/
import Derived.Test.YtepikbmlhejobaaDoorStrS
import Derived.Test.YtepikbmlhejobaaDoorPieces
namespace Go.Proofs.YtepikbmlhejobaaDoor
open Go.RowKit
set_option linter.unusedSimpArgs false
abbrev nilS : Value := .slice none 0 0
theorem mk_all : ∀ W : World, (Instr.makeSlice 26 (.int .i64 3) (.int .i64 3)).run Tryd.prog W = .ok (.slice (some ⟨W.heap.size, 0, none⟩) 3 3) (W.alloc (.cells #[nilS, nilS, nilS] 27)) := fun _ => by kernel_rfl
theorem rng_of_blkS {v : World} {R t : Nat} {D : List UInt8} (hb : Blk v R t (arr encB D)) : v.rangeAt R 0 (D.map encB) := fun j x hx => by rw [Nat.zero_add, hb.cell]; simpa [arr] using hx
theorem size32S {D : List UInt8} (h : D.length = 32) : (Tryd.prog.info? 36).map (·.size) = some (D.map encB).length := by rw [List.length_map, h]; kernel_rfl
def three (a b c : Nat) : Nat → Nat := fun k => if k = 0 then a else if k = 1 then b else c
theorem three_ne {a b c : Nat} (h1 : a < b) (h2 : b < c) : ∀ i j, i < 3 → j < 3 → j ≠ i → three a b c j ≠ three a b c i := fun i j hi hj h => by
  rcases (show i = 0 ∨ i = 1 ∨ i = 2 by omega) with e | e | e <;> rcases (show j = 0 ∨ j = 1 ∨ j = 2 by omega) with e' | e' | e' <;> subst e <;> subst e' <;> simp [three] at h ⊢ <;> omega
theorem three_ge {a b c n : Nat} (h0 : n ≤ a) (h1 : a < b) (h2 : b < c) : ∀ i, n ≤ three a b c i := fun i => by
  unfold three
  split
  · exact h0
  · split <;> omega
set_option maxRecDepth 20000 in
set_option maxHeartbeats 16000000 in
theorem stream_any (A : Option Addr) (cap n : Nat) (steps : List Stp) (w : World) (hn : steps.length = n) (hnb : n ≤ 1048576) (hsum : sumB steps ≤ 1048576) (hr : RdS encS 3 w A steps)
    (hst : ∀ s ∈ steps, s.p.length = s.n ∧ Rd encB w s.A s.p ∧ (s.A = none → s.n = 0 ∧ s.c = 0))
    (hT : Rd enc32 w (some ⟨3, 0, none⟩) ksL) (hS : Rd enc32 w (some ⟨0, 0, none⟩) startS.list) (hTB : Rd enc32 w (some ⟨1, 0, none⟩) startS.list) (hTQ : Rd enc32 w (some ⟨2, 0, none⟩) ksL) :
    Calls Tryd.prog 3 #[.slice A n cap] w fun e w' => e = .returned (.bool true) ∧ Below w.heap.size w w' := by
  have z1 := zeroA32
  have z2 := mk_all
  have HRS := Lib.hid hr
  have HN := Lib.hid hn
  have HST := Lib.hid hst
  have HT := Lib.hid hT
  have HS := Lib.hid hS
  have HTB := Lib.hid hTB
  have HTQ := Lib.hid hTQ
  have HSUM := Lib.hid hsum
  have h3 : 3 < w.heap.size := by
    obtain ⟨ad, e, hlt⟩ := hT.blk_lt (by intro e; cases e)
    cases e
    exact hlt
  have g0 := Lib.hid (new_any ksL startS w hS)
  clear hr hn hst hT hS hTB hTQ hsum
  go_enter Tryd.func3, Tryd.ntmps3
  go_wp2_with fail
  with_reducible refine g0.out.mono ?_
  rintro e w1 ⟨rfl, s0, hB1⟩
  have B1 := Lib.hid hB1
  have g1 := Lib.hid (new_any ksL startS w1 (HS.out.below hB1))
  obtain ⟨a, ha⟩ : ∃ a, a = w.heap.size := ⟨_, rfl⟩
  rw [← ha] at s0 ⊢
  have HA := Lib.hid ha
  have hwa : w.heap.size ≤ a := by omega
  clear g0 hB1 ha
  go_wp2_with fail
  with_reducible refine g1.out.mono ?_
  rintro e w2 ⟨rfl, s1, hB2⟩
  have s0' := s0.below hB2 s0.lt
  have B2 := Lib.hid (B1.out.trans (hB2.mono B1.out.size))
  have g2 := Lib.hid (new_any ksL startS w2 (HS.out.below B2.out))
  obtain ⟨b, hb⟩ : ∃ b, b = w1.heap.size := ⟨_, rfl⟩
  rw [← hb] at s1 ⊢
  have hab : a < b := by rw [hb]; exact s0.lt
  clear g1 hB2 hb s0
  go_wp2_with fail
  with_reducible refine g2.out.mono ?_
  rintro e w3 ⟨rfl, s2, hB3⟩
  have s0 := s0'.below hB3 s0'.lt
  have s1' := s1.below hB3 s1.lt
  have B3 := Lib.hid (B2.out.trans (hB3.mono B2.out.size))
  obtain ⟨c, hc⟩ : ∃ c, c = w2.heap.size := ⟨_, rfl⟩
  rw [← hc] at s2 ⊢
  have hbc : b < c := by rw [hc]; exact s1.lt
  clear g2 hB3 hc s0' s1
  go_wp2_with fail
  -- LOOPS: printed by gen_Stream.py
  obtain ⟨Hh, hHh⟩ : ∃ Hh, Hh = w3.heap.size := ⟨_, rfl⟩
  obtain ⟨W0, hW0⟩ : ∃ W0, W0 = (w3.alloc (.cells #[ptrOf a, ptrOf b, ptrOf c] 23)).alloc (.cells #[nilS, nilS, nilS] 27) := ⟨_, rfl⟩
  have hal : Below w3.heap.size w3 W0 := by rw [hW0]; exact ((Below.refl _ w3).alloc (Nat.le_refl _) _).alloc (by simp) _
  have HW0 := Lib.hid hW0
  have HHh := Lib.hid hHh
  have hwh : w.heap.size ≤ Hh := by rw [hHh]; exact B3.out.size
  have S0 : StrS w W0 Hh (Hh + 1) (three a b c) (fun _ => []) (fun _ => []) (fun _ => nilS) := by
    refine ⟨fun k hk => ?_, fun k hk => Own.nil_ _ _ _ _, fun k j _ _ _ q e => (by cases e), ?_, ?_, B3.out.trans (hal.mono B3.out.size)⟩
    · rcases (show k = 0 ∨ k = 1 ∨ k = 2 by omega) with h | h | h <;> subst h
      · exact s0.below hal s0.lt
      · exact s1'.below hal s1'.lt
      · exact s2.below hal s2.lt
    · rw [hW0, hHh]
      have := Blk.new (w3.alloc (.cells #[ptrOf a, ptrOf b, ptrOf c] 23)) 27 #[nilS, nilS, nilS]
      rw [World.size_alloc] at this
      exact this
    · rw [hW0, hHh]
      exact (Blk.new w3 23 #[ptrOf a, ptrOf b, ptrOf c]).alloc _
  have hge := three_ge hwa hab hbc
  have hne3 := three_ne hab hbc
  have HGE := Lib.hid hge
  have HNE3 := Lib.hid hne3
  generalize three a b c = hb at *
  clear hW0 hHh hal s0 s1' s2 hge hne3 B1 B2 B3 HA hwa hab hbc
  rw [← HHh.out, ← HW0.out]
  go_loopw [5] (fun t5 wr => ∃ (i : Nat) (G : Nat → List UInt8) (V : Nat → Value), i ≤ n ∧ t5 = .int .i64 (i : Int) ∧ StrS w wr Hh (Hh + 1) hb G G V ∧ Hid (∀ k, k < 3 → (G k).length + sumB (steps.drop i) ≤ 1048576)) (fun t5 _ => n - (intOf t5).toNat)
  case atStart => exact ⟨0, _, _, by omega, rfl, S0, Lib.hid (fun k _ => by have := HSUM.out; simpa using this)⟩
  case round =>
    obtain ⟨i, G, V, hi, rfl, hS, hG⟩ := hrel
    clear S0
    by_cases hlt : i < n
    · have hlt' : (i : Int) < (n : Int) := by omega
      obtain ⟨bk, o, s, hA, hbk, hx, hc⟩ := (HRS.out.below hS.bel).at_ (show i < steps.length by rw [HN.out]; exact hlt)
      subst hA
      have x0 : wr.cell? ⟨bk, o + i * 3, none⟩ = some (.int .i64 s.kind) := hc 0 _ rfl
      have x1 : wr.cell? ⟨bk, o + i * 3 + 1, none⟩ = some (.int .i64 s.of_) := hc 1 _ rfl
      have x2 : wr.cell? ⟨bk, o + i * 3 + 2, none⟩ = some (.slice s.A s.n s.c) := hc 2 _ rfl
      obtain ⟨hsl, hsr, hsn⟩ := HST.out s (List.mem_of_getElem? hx)
      have hsd := sumB_drop hx
      have HG2 := Lib.hid (show ∀ k, k < 3 → (G k).length + (s.n + sumB (steps.drop (i + 1))) ≤ 1048576 from fun k hk => by rw [← hsd]; exact hG.out k hk)
      obtain ⟨kind, of_, PA, pn, pc, p⟩ := s
      dsimp only at x0 x1 x2 hsl hsr hsn HG2
      have HSL := Lib.hid hsl
      have HSR := Lib.hid hsr
      have HSN := Lib.hid hsn
      have hpn : pn ≤ 1048576 := by have := HG2.out 0 (by omega); omega
      obtain ⟨k, hk3, hkk⟩ : ∃ k : Nat, k < 3 ∧ of_ % 3 = (k : Int) := ⟨(of_ % 3).toNat, by omega, by omega⟩
      obtain ⟨T, hTe⟩ : ∃ T, T = wr.heap.size := ⟨_, rfl⟩
      have HTe := Lib.hid hTe
      have q6 : Blk (wr.alloc (.cells #[.int .i64 kind, .int .i64 of_, .slice PA pn pc] 29)) T 29 #[.int .i64 kind, .int .i64 of_, .slice PA pn pc] := by rw [hTe]; exact Blk.new wr _ _
      have S1 := hS.below ((Below.refl wr.heap.size wr).alloc (Nat.le_refl _) (.cells #[.int .i64 kind, .int .i64 of_, .slice PA pn pc] 29))
      have g1 := Lib.hid (which_any kind of_ k (.slice PA pn pc) (wr.alloc (.cells #[.int .i64 kind, .int .i64 of_, .slice PA pn pc] 29)) hkk)
      have HS1 := Lib.hid S1
      have Q6 := Lib.hid q6
      clear hc hx hsl hsr hsn hsd hG hkk hS S1 hTe q6
      go_wp2_with fail
      with_reducible refine g1.out.mono ?_
      rintro e w4 ⟨rfl, hB4⟩
      have S4 := Lib.hid (HS1.out.below hB4)
      have Q4 := Lib.hid (Q6.out.below hB4 Q6.out.lt)
      have tc0 : w4.cell? ⟨T, 0, none⟩ = some (.int .i64 kind) := Q4.out.cell 0
      have tc2 : w4.cell? ⟨T, 2, none⟩ = some (.slice PA pn pc) := Q4.out.cell 2
      have i3 : (0 : Int) ≤ (k : Int) ∧ (k : Int) < 3 := by omega
      clear g1 HS1 Q6 x0 x1 x2 hbk hB4
      rw [← HTe.out]
      by_cases k0 : kind = 0
      · subst k0
        have g2 := Lib.hid (roomy_n PA pc pn p w4 HSL.out (by omega) (HSR.out.below S4.out.bel))
        go_wp2_with fail
        with_reducible refine g2.out.mono ?_
        rintro e w5 ⟨v, rfl, hown, hB5⟩
        have hl150 := Lib.hid (show (p ++ marks 150).length = pn + 150 by rw [List.length_append, HSL.out, marks_length])
        obtain ⟨g, cf, rfl, hg, hgl, hcf, hcm⟩ := hown.pos hl150.out (by omega)
        unfold maxLen at hcm
        have S5 := Lib.hid ((S4.out.below hB5).below (Below.refl w5.heap.size w5).drew)
        have Q5 := Lib.hid ((Q4.out.below hB5 Q4.out.lt).drew)
        have hw4 : w.heap.size ≤ w4.heap.size := S4.out.bel.size
        have O5 := Lib.hid ((hown.lower (base' := w.heap.size) hw4).drewN 1)
        have HF5 := Lib.hid (show Rd encB w5.drew (some ⟨g, 0, none⟩) p by
          have := O5.out.rd.take pn
          rwa [List.take_left' HSL.out] at this)
        have g3 := Lib.hid (given_c (some ⟨g, 0, none⟩) PA (pn + 150) cf pn pc w5.drew (by omega) HSN.out)
        have hVg := Lib.hid (show ∀ j, j < 3 → (V j).ownBlock ≠ some g from fun j hj e => by have := ((S4.out.own j hj).lt g e).2; omega)
        have hgk := S5.out.hs k hk3
        have hgT : g ≠ hb k := by obtain ⟨cs, h1⟩ := hgk.blk; have := O5.out.blk_ne h1 (by decide); exact fun e => this (by rw [← e]; rfl)
        clear g2 hown hB5 S4 Q4 tc0 tc2 hgk
        go_wp2_with fail
        refine wp_region_noPanic ?_
        refine wp_region_held_drew (S := fun w' => w'.cell? ⟨Hh, k, none⟩ = some (ptrOf (hb k)) ∧ w'.cell? ⟨T, 2, none⟩ = some (.slice PA pn pc)) (by kernel_rfl) (⟨S5.out.cellh hk3, Q5.out.cell 2⟩) (fun hHeld => ?_)
        refine take_on (i := 0) (some 52) (v := ?vr1) rfl rfl (by kernel_rfl) (by kernel_rfl) (by kernel_rfl) (fun _ _ _ h => h) (by rfl) ?hyr1 (by with_reducible exact hHeld) ?restr1
        case hyr1 => (intro wS hSw; (try dsimp only at hSw); go_simp; try with_reducible rfl)
        try simp only [Act.put, List.setIfInBounds_toArray, List.set_cons_zero, List.set_cons_succ]
        refine take_on (i := 1) (some 53) (v := ?vr2) rfl rfl (by kernel_rfl) (by kernel_rfl) (by kernel_rfl) (fun _ _ _ h => h) (by rfl) ?hyr2 (by with_reducible exact hHeld) ?restr2
        case hyr2 => (intro wS hSw; (try dsimp only at hSw); go_simp; try with_reducible rfl)
        try simp only [Act.put, List.setIfInBounds_toArray, List.set_cons_zero, List.set_cons_succ]
        refine take_on (i := 2) (some 54) (v := ?vr3) rfl rfl (by kernel_rfl) (by kernel_rfl) (by kernel_rfl) (fun _ _ _ h => h) (by rfl) ?hyr3 (by with_reducible exact hHeld) ?restr3
        case hyr3 => (intro wS hSw; (try dsimp only at hSw); go_simp; try with_reducible rfl)
        try simp only [Act.put, List.setIfInBounds_toArray, List.set_cons_zero, List.set_cons_succ]
        refine take_on (i := 3) (some 55) (v := ?vr4) rfl rfl (by kernel_rfl) (by kernel_rfl) (by kernel_rfl) (fun _ _ _ h => h) (by rfl) ?hyr4 (by with_reducible exact hHeld) ?restr4
        case hyr4 => (intro wS hSw; (try dsimp only at hSw); go_simp; try with_reducible rfl)
        try simp only [Act.put, List.setIfInBounds_toArray, List.set_cons_zero, List.set_cons_succ]
        refine take_on (i := 4) (some 56) (v := ?vr5) rfl rfl (by kernel_rfl) (by kernel_rfl) (by kernel_rfl) (fun _ _ _ h => h) (by rfl) ?hyr5 (by with_reducible exact hHeld) ?restr5
        case hyr5 => (intro wS hSw; (try dsimp only at hSw); go_simp; try with_reducible rfl)
        try simp only [Act.put, List.setIfInBounds_toArray, List.set_cons_zero, List.set_cons_succ]
        refine take_on (i := 5) (some 57) (v := ?vr6) rfl rfl (by kernel_rfl) (by kernel_rfl) (by kernel_rfl) (fun _ _ _ h => h) (by rfl) ?hyr6 (by with_reducible exact hHeld) ?restr6
        case hyr6 => (intro wS hSw; (try dsimp only at hSw); go_simp; try with_reducible rfl)
        try simp only [Act.put, List.setIfInBounds_toArray, List.set_cons_zero, List.set_cons_succ]
        refine take_on (i := 6) (some 58) (v := ?vr7) rfl rfl (by kernel_rfl) (by kernel_rfl) (by kernel_rfl) (fun _ _ _ h => h) (by rfl) ?hyr7 (by with_reducible exact hHeld) ?restr7
        case hyr7 => (intro wS hSw; (try dsimp only at hSw); go_simp; try with_reducible rfl)
        try simp only [Act.put, List.setIfInBounds_toArray, List.set_cons_zero, List.set_cons_succ]
        refine wpAnyH_ready (rs := [7]) (by kernel_rfl) (by simp) ?_
        refine AllReadyH.cons rfl (fun K hK => ?_) AllReadyH.nil
        go_simp
        refine g3.out.mono ?_
        rintro e w' ⟨A6, c6, rfl, hA6, hc6, hc6m, rfl⟩
        have h6 := Lib.hid (show Rd encB w5.drew A6 p by
          rcases hA6 with rfl | ⟨rfl, h0⟩
          · exact HF5.out
          · rw [List.eq_nil_of_length_eq_zero (l := p) (by rw [HSL.out]; exact h0)]; exact Rd.nil_)
        have hne6 := Lib.hid (show p ≠ [] → ∀ ad, A6 = some ad → ad.block ≠ hb k from fun _ ad e => by
          rcases hA6 with e2 | ⟨e2, _⟩
          · rw [e] at e2; injection e2 with e2; rw [e2]; exact hgT
          · rw [e] at e2; cases e2)
        have g4 := Lib.hid (write_n ksL ksL_len startS (hb k) (G k) p (G k).length pn A6 c6 w5.drew HSL.out (S5.out.hs k hk3) h6.out hne6.out hc6 (by omega) (by have := HG2.out k hk3; omega) (HT.out.below S5.out.bel) (by have := HGE.out k; omega))
        clear g3 hA6 HF5 h6 hne6
        refine hK.out _ _ (⟨S5.out.cellh hk3, Q5.out.cell 2⟩) (fun hHeld => ?_)
        clear hK K
        try simp only [Act.put, List.setIfInBounds_toArray, List.set_cons_zero, List.set_cons_succ]
        refine wpAnyH_ready (rs := [8]) (by kernel_rfl) (by simp) ?_
        refine AllReadyH.cons rfl (fun K hK => ?_) AllReadyH.nil
        go_simp
        refine g4.out.mono ?_
        rintro e w6 ⟨rfl, hS6, hC6⟩
        have hlen : (G k).length + pn = (G k ++ p).length := by rw [List.length_append, HSL.out]
        rw [hlen] at hS6
        obtain ⟨cs, hbk6⟩ := (S5.out.hs k hk3).blk
        have Q6 := Lib.hid (hC6.blk Q5.out fun _ e => blk_type_ne Q5.out hbk6 (by decide) e)
        have O6 := Lib.hid (O5.out.keep fun q e hl => hC6.far q hl fun _ e2 => O5.out.blk_ne hbk6 (by decide) (by rw [e, e2]))
        have S6 := Lib.hid (S5.out.wrote hk3 (HNE3.out k · hk3) hS6 hC6 (HGE.out k))
        clear g4 hS6 hC6 S5 Q5 O5 hbk6 hlen
        refine hK.out _ _ (⟨S6.out.cellh hk3, Q6.out.cell 2⟩) (fun hHeld => ?_)
        clear hK K
        try simp only [Act.put, List.setIfInBounds_toArray, List.set_cons_zero, List.set_cons_succ]
        refine wpAnyH_done (by kernel_rfl) ?_ _
        refine NoPanic.normal ?_
        have tc2 : w6.cell? ⟨T, 2, none⟩ = some (.slice PA pn pc) := Q6.out.cell 2
        have g5 := Lib.hid (untouched_n (some ⟨g, 0, none⟩) PA cf pc pn p w6 HSL.out (by omega) hcf (by unfold maxLen; exact hcm) O6.out.rd (HSR.out.below S6.out.bel))
        go_wp2_with fail
        with_reducible refine g5.out.mono ?_
        rintro e w' ⟨rfl, dn, rfl⟩
        have hbi : (i : Int) % 256 = vB (UInt8.ofNat i) := by unfold vB; rw [UInt8.toNat_ofNat']; omega
        have g6 := Lib.hid (spoil_any g (pn + 150) cf w.heap.size (UInt8.ofNat i) (p ++ marks 150) (w6.drewN dn) hl150.out (by unfold maxLen; exact hcm) (O6.out.drewN dn))
        have S7 := Lib.hid (S6.out.below (below_drewN (Below.refl w6.heap.size w6) dn))
        have Q7 := Lib.hid (Q6.out.drewN dn)
        obtain ⟨W7, hW7⟩ : ∃ W7, W7 = w6.drewN dn := ⟨_, rfl⟩
        rw [← hW7] at g6 S7 Q7 ⊢
        have O7 := Lib.hid (O6.out.drewN dn)
        rw [← hW7] at O7
        clear g5 O6 S6 Q6 tc2 hW7
        go_wp2_with fail
        refine g6.out.mono ?_
        rintro e w8 ⟨rfl, _, hg8⟩
        have S8 := Lib.hid ((S7.out.grown O7.out hg8 hVg.out (by omega)).below (Below.refl w8.heap.size w8).drew)
        have Q8 := Lib.hid ((Q7.out.grown hg8 (fun e => O7.out.blk_ne Q7.out (by decide) e.symm)).drew)
        have ca : w8.drew.cell? ⟨Hh + 1, k, none⟩ = some (V k) := S8.out.cella hk3
        have hap1 := HG2.out k hk3
        clear g6 S7 Q7 O7 hg8 hVg hbi
        go_wp2_with fail
        refine wp_region_noPanic ?_
        refine wp_region_held_drew (S := fun w' => w'.cell? ⟨T, 2, none⟩ = some (.slice PA pn pc)) (by kernel_rfl) (Q8.out.cell 2) (fun hHeld => ?_)
        refine take_on (i := 0) (some 70) (v := ?vr8) rfl rfl (by kernel_rfl) (by kernel_rfl) (by kernel_rfl) (fun _ _ _ h => h) (by rfl) ?hyr8 (by with_reducible exact hHeld) ?restr8
        case hyr8 => (intro wS hSw; (try dsimp only at hSw); go_simp; try with_reducible rfl)
        try simp only [Act.put, List.setIfInBounds_toArray, List.set_cons_zero, List.set_cons_succ]
        refine take_on (i := 1) (some 71) (v := ?vr9) rfl rfl (by kernel_rfl) (by kernel_rfl) (by kernel_rfl) (fun _ _ _ h => h) (by rfl) ?hyr9 (by with_reducible exact hHeld) ?restr9
        case hyr9 => (intro wS hSw; (try dsimp only at hSw); go_simp; try with_reducible rfl)
        try simp only [Act.put, List.setIfInBounds_toArray, List.set_cons_zero, List.set_cons_succ]
        refine take_on (i := 2) (some 72) (v := ?vr10) rfl rfl (by kernel_rfl) (by kernel_rfl) (by kernel_rfl) (fun _ _ _ h => h) (by rfl) ?hyr10 (by with_reducible exact hHeld) ?restr10
        case hyr10 => (intro wS hSw; (try dsimp only at hSw); go_simp; try with_reducible rfl)
        try simp only [Act.put, List.setIfInBounds_toArray, List.set_cons_zero, List.set_cons_succ]
        refine take_on (i := 3) (some 73) (v := ?vr11) rfl rfl (by kernel_rfl) (by kernel_rfl) (by kernel_rfl) (fun _ _ _ h => h) (by rfl) ?hyr11 (by with_reducible exact hHeld) ?restr11
        case hyr11 => (intro wS hSw; (try dsimp only at hSw); go_simp; try with_reducible rfl)
        try simp only [Act.put, List.setIfInBounds_toArray, List.set_cons_zero, List.set_cons_succ]
        refine take_on (i := 4) (some 74) (v := ?vr12) rfl rfl (by kernel_rfl) (by kernel_rfl) (by kernel_rfl) (fun _ _ _ h => h) (by rfl) ?hyr12 (by with_reducible exact hHeld) ?restr12
        case hyr12 => (intro wS hSw; (try dsimp only at hSw); go_simp; try with_reducible rfl)
        try simp only [Act.put, List.setIfInBounds_toArray, List.set_cons_zero, List.set_cons_succ]
        refine take_on (i := 6) (some 76) (v := ?vr13) rfl rfl (by kernel_rfl) (by kernel_rfl) (by kernel_rfl) (fun _ _ _ h => h) (by rfl) ?hyr13 (by with_reducible exact hHeld) ?restr13
        case hyr13 => (intro wS hSw; (try dsimp only at hSw); go_simp; try with_reducible rfl)
        try simp only [Act.put, List.setIfInBounds_toArray, List.set_cons_zero, List.set_cons_succ]
        refine take_on (i := 7) (some 77) (v := ?vr14) rfl rfl (by kernel_rfl) (by kernel_rfl) (by kernel_rfl) (fun _ _ _ h => h) (by rfl) ?hyr14 (by with_reducible exact hHeld) ?restr14
        case hyr14 => (intro wS hSw; (try dsimp only at hSw); go_simp; try with_reducible rfl)
        try simp only [Act.put, List.setIfInBounds_toArray, List.set_cons_zero, List.set_cons_succ]
        refine wpAnyH_ready (rs := [5]) (by kernel_rfl) (by simp) ?_
        refine AllReadyH.cons rfl (fun K hK => ?_) AllReadyH.nil
        go_simp
        refine hK.out _ _ (Q8.out.cell 2) (fun hHeld => ?_)
        clear hK K
        try simp only [Act.put, List.setIfInBounds_toArray, List.set_cons_zero, List.set_cons_succ]
        refine wpAnyH_ready (rs := [8]) (by kernel_rfl) (by simp) ?_
        refine AllReadyH.cons rfl (fun K hK => ?_) AllReadyH.nil
        refine step_appendO _ bTy encB_one (by rfl) (.tmp 75) (.tmp 77) (by rfl) w.heap.size _ (G k) p (by rfl) (S8.out.own k hk3) PA pc (by rw [HSL.out]; rfl) (HSR.out.below S8.out.bel) (by rw [HSL.out]; unfold maxLen; omega) (by rw [HSL.out]; omega) S8.out.bel.size ?_
        intro v9 w9 o9 hg9 hloc9
        obtain ⟨A9, c9, hv9, _, _, _⟩ := o9.slice
        rw [List.length_append] at hv9
        subst hv9
        have Q9 := Lib.hid (Q8.out.grown hg9 (fun e => (S8.out.own k hk3).blk_ne Q8.out (by decide) e.symm))
        have al9 := S8.out.al.grown hg9 (fun e => (S8.out.own k hk3).blk_ne S8.out.al (by decide) e.symm)
        have ca9 : w9.cell? ⟨Hh + 1, k, none⟩ = some (V k) := (al9.cell _).trans (three_get V k hk3)
        have fa9 := al9.frozen k
        have hsep9 : ∀ j, j < 3 → j ≠ k → Sep (.slice A9 ((G k).length + p.length) c9) (V j) := fun j hj hjk => (S8.out.sep k j hk3 hj (fun e => hjk e.symm)).app hloc9 (fun q e => ((S8.out.own j hj).lt q e).2)
        have S10 := Lib.hid (S8.out.put hk3 o9 hg9 hsep9 (by omega))
        have hTal : T ≠ Hh + 1 := blk_type_ne Q9.out al9 (by decide)
        clear S8 Q8 ca o9 hg9 hloc9 hsep9 al9
        refine hK.out _ _ (Q9.out.cell 2) (fun hHeld => ?_)
        clear hK K
        try simp only [Act.put, List.setIfInBounds_toArray, List.set_cons_zero, List.set_cons_succ]
        refine take_on (i := 9) (some 79) (v := ?vr15) rfl rfl (by kernel_rfl) (by kernel_rfl) (by kernel_rfl) (fun _ _ _ h => h) (by rfl) ?hyr15 (by with_reducible exact hHeld) ?restr15
        case hyr15 => (intro wS hSw; (try dsimp only at hSw); go_simp; try with_reducible rfl)
        try simp only [Act.put, List.setIfInBounds_toArray, List.set_cons_zero, List.set_cons_succ]
        refine wpAnyH_ready (rs := [10]) (by kernel_rfl) (by simp) ?_
        refine AllReadyH.cons rfl (fun K hK => ?_) AllReadyH.nil
        go_simp
        refine hK.out _ _ ((Q9.out.far (p := ⟨Hh + 1, k, none⟩) hTal _).cell 2) (fun hHeld => ?_)
        clear hK K
        try simp only [Act.put, List.setIfInBounds_toArray, List.set_cons_zero, List.set_cons_succ]
        refine wpAnyH_done (by kernel_rfl) ?_ _
        refine NoPanic.normal ?_
        go_wp2
        go_roundw
        case rel => exact ⟨i + 1, upd G k (G k ++ p), upd V k (.slice A9 ((G k).length + p.length) c9), by omega, by go_num, S10.out, Lib.hid (fun q hq => by
          have h1 := HG2.out q hq
          by_cases e : q = k
          · subst e; rw [upd_same, List.length_append, HSL.out]; omega
          · rw [upd_ne _ _ e]; omega)⟩
        case measure => simp [intOf]; omega
      · have k0' : (kind == 0) = false := by rw [beq_eq_false_iff_ne]; exact k0
        by_cases k1 : kind = 1
        · subst k1
          clear k0 k0'
          have hlk := HG2.out k hk3
          have ch : w4.cell? ⟨Hh, k, none⟩ = some (ptrOf (hb k)) := S4.out.cellh hk3
          have g2 := Lib.hid (sum_any ksL ksL_len startS (hb k) (G k) w4 (S4.out.hs k hk3) (by omega) (HT.out.below S4.out.bel))
          obtain ⟨D, hD⟩ : ∃ D, D = digestL ksL startS (G k) := ⟨_, rfl⟩
          rw [← hD] at g2
          have HD := Lib.hid hD
          have HND := Lib.hid (show D.length = 32 by rw [hD]; exact digestL_len _ _ _)
          clear hD
          go_wp2_with fail
          refine g2.out.mono ?_
          rintro e w5 ⟨rfl, hB5⟩
          have S5 := Lib.hid (S4.out.below hB5)
          obtain ⟨R, hR⟩ : ∃ R, R = w5.heap.size := ⟨_, rfl⟩
          have HR := Lib.hid hR
          have q0 : Blk (w5.alloc (.cells (arr encB zero32) 36)) R 36 (arr encB zero32) := by rw [hR]; exact Blk.new w5 _ _
          have B5 := Lib.hid ((Below.refl w5.heap.size w5).alloc (Nat.le_refl _) (.cells (arr encB zero32) 36))
          clear g2 hB5 hR ch S4 Q4 tc0 tc2
          go_wp2_with (first
            | rw [← HR.out]
            | ((with_reducible refine wpList_store_blk rfl 36 (.tmp 9) (.tmp 86) rfl R 36 (arr encB zero32) (arr encB D) ?hb rfl rfl (arrSz HND.out) ?hl (arr_one encB_one _) ?_); (case hb => exact q0); (case hl => rw [arr_size, arr_size, zero32_len, HND.out]); intro w6 b6 hg6 hs6; clear hs6))
          have S6 := Lib.hid ((S5.out.below (below_only B5.out hg6 B5.out.size (by rw [HR.out]; exact Nat.le_refl _))).below (Below.refl w6.heap.size w6).drew)
          have b6d := b6.drew
          obtain ⟨A2, c2, hV, _, r2, _⟩ := (S6.out.own k hk3).slice
          obtain ⟨L, hL⟩ : ∃ L, L = (G k).length := ⟨_, rfl⟩
          rw [← hL] at hV
          have HL := Lib.hid hL
          have cv : ∀ v, StrS w v Hh (Hh + 1) hb G G V → v.cell? ⟨Hh + 1, k, none⟩ = some (.slice A2 L c2) := fun v h => by rw [h.cella hk3, hV]
          have CV := Lib.hid cv
          have g3 := Lib.hid (refSum_any A2 c2 L (G k) w6.drew hL.symm (by omega) r2 (HTB.out.below S6.out.bel) (HTQ.out.below S6.out.bel))
          rw [← HD.out] at g3
          clear S5 B5 hg6 q0 b6 hL hV cv r2
          go_wp2_with fail
          refine wp_region_noPanic ?_
          refine wp_region_held_drew (S := fun w' => w'.rangeAt R 0 (D.map encB) ∧ w'.cell? ⟨Hh + 1, k, none⟩ = some (.slice A2 L c2)) (by kernel_rfl) (⟨rng_of_blkS b6d, CV.out _ S6.out⟩) (fun hHeld => ?_)
          refine take_on (i := 0) (some 87) (v := .agg (D.map encB).toArray) rfl rfl (by kernel_rfl) (by kernel_rfl) (by kernel_rfl) (fun _ _ _ h => h) (by rfl) ?hyr16 (by with_reducible exact hHeld) ?restr16
          case hyr16 => exact fun wS hSw => exec_load_mid _ _ rfl _ _ rfl _ _ (hSw.1) arrTy rfl (size32S HND.out)
          try simp only [Act.put, List.setIfInBounds_toArray, List.set_cons_zero, List.set_cons_succ]
          refine take_on (i := 1) (some 88) (v := ?vr17) rfl rfl (by kernel_rfl) (by kernel_rfl) (by kernel_rfl) (fun _ _ _ h => h) (by rfl) ?hyr17 (by with_reducible exact hHeld) ?restr17
          case hyr17 => (intro wS hSw; (try dsimp only at hSw); go_simp; try with_reducible rfl)
          try simp only [Act.put, List.setIfInBounds_toArray, List.set_cons_zero, List.set_cons_succ]
          refine take_on (i := 2) (some 89) (v := ?vr18) rfl rfl (by kernel_rfl) (by kernel_rfl) (by kernel_rfl) (fun _ _ _ h => h) (by rfl) ?hyr18 (by with_reducible exact hHeld) ?restr18
          case hyr18 => (intro wS hSw; (try dsimp only at hSw); go_simp; try with_reducible rfl)
          try simp only [Act.put, List.setIfInBounds_toArray, List.set_cons_zero, List.set_cons_succ]
          refine take_on (i := 3) (some 90) (v := ?vr19) rfl rfl (by kernel_rfl) (by kernel_rfl) (by kernel_rfl) (fun _ _ _ h => h) (by rfl) ?hyr19 (by with_reducible exact hHeld) ?restr19
          case hyr19 => (intro wS hSw; (try dsimp only at hSw); go_simp; try with_reducible rfl)
          try simp only [Act.put, List.setIfInBounds_toArray, List.set_cons_zero, List.set_cons_succ]
          refine take_on (i := 4) (some 91) (v := ?vr20) rfl rfl (by kernel_rfl) (by kernel_rfl) (by kernel_rfl) (fun _ _ _ h => h) (by rfl) ?hyr20 (by with_reducible exact hHeld) ?restr20
          case hyr20 => (intro wS hSw; (try dsimp only at hSw); go_simp; try with_reducible rfl)
          try simp only [Act.put, List.setIfInBounds_toArray, List.set_cons_zero, List.set_cons_succ]
          refine wpAnyH_ready (rs := [5]) (by kernel_rfl) (by simp) ?_
          refine AllReadyH.cons rfl (fun K hK => ?_) AllReadyH.nil
          go_simp
          with_reducible refine g3.out.mono ?_
          rintro e w7 ⟨rfl, hB7⟩
          have S7 := Lib.hid (S6.out.below hB7)
          have b7 := b6d.below hB7 b6d.lt
          have g4 := Lib.hid (equal_any D D w7 HND.out HND.out)
          rw [show decide (D = D) = true from decide_eq_true rfl] at g4
          clear g3 hB7 S6 b6d
          refine hK.out _ _ (⟨rng_of_blkS b7, CV.out _ S7.out⟩) (fun hHeld => ?_)
          clear hK K
          try simp only [Act.put, List.setIfInBounds_toArray, List.set_cons_zero, List.set_cons_succ]
          refine wpAnyH_ready (rs := [6]) (by kernel_rfl) (by simp) ?_
          refine AllReadyH.cons rfl (fun K hK => ?_) AllReadyH.nil
          go_simp
          refine g4.out.mono ?_
          rintro e w8 ⟨rfl, hB8⟩
          have S8 := Lib.hid (S7.out.below hB8)
          have b8 := b7.below hB8 b7.lt
          clear g4 hB8 S7 b7
          refine hK.out _ _ (⟨rng_of_blkS b8, CV.out _ S8.out⟩) (fun hHeld => ?_)
          clear hK K
          try simp only [Act.put, List.setIfInBounds_toArray, List.set_cons_zero, List.set_cons_succ]
          refine take_on (i := 7) (some 94) (v := ?vr21) rfl rfl (by kernel_rfl) (by kernel_rfl) (by kernel_rfl) (fun _ _ _ h => h) (by rfl) ?hyr21 (by with_reducible exact hHeld) ?restr21
          case hyr21 => (intro wS hSw; (try dsimp only at hSw); go_simp; try with_reducible rfl)
          try simp only [Act.put, List.setIfInBounds_toArray, List.set_cons_zero, List.set_cons_succ]
          refine wpAnyH_done (by kernel_rfl) ?_ _
          refine NoPanic.normal ?_
          go_wp2
          go_roundw
          case rel => exact ⟨i + 1, G, V, by omega, by go_num, S8.out, Lib.hid (fun q hq => by have := HG2.out q hq; omega)⟩
          case measure => simp [intOf]; omega
        · have k1' : (kind == 1) = false := by rw [beq_eq_false_iff_ne]; exact k1
          by_cases k2 : kind = 2
          · subst k2
            clear k0 k0' k1 k1'
            have hlk := HG2.out k hk3
            have S5 := Lib.hid (S4.out.below (Below.refl w4.heap.size w4).drew)
            obtain ⟨A2, c2, hV, _, r2, _⟩ := (S5.out.own k hk3).slice
            obtain ⟨L, hL⟩ : ∃ L, L = (G k).length := ⟨_, rfl⟩
            rw [← hL] at hV
            have HL := Lib.hid hL
            have cv : w4.drew.cell? ⟨Hh + 1, k, none⟩ = some (.slice A2 L c2) := by rw [S5.out.cella hk3, hV]
            have CV := Lib.hid cv
            have g3 := Lib.hid (count_any ksL startS (hb k) (G k) L w4.drew (by rw [hL]; exact S5.out.hs k hk3))
            have wu : IntKind.u64.wrap (L : Int) = (L : Int) := by rw [IntKind.wrap_u64]; omega
            clear hL hV cv r2
            go_wp2_with fail
            clear S4 Q4 tc0 tc2
            refine wp_region_noPanic ?_
            refine wp_region_held_drew (S := fun w' => w'.cell? ⟨Hh, k, none⟩ = some (ptrOf (hb k)) ∧ w'.cell? ⟨Hh + 1, k, none⟩ = some (.slice A2 L c2)) (by kernel_rfl) (⟨S5.out.cellh hk3, CV.out⟩) (fun hHeld => ?_)
            refine take_on (i := 0) (some 97) (v := ?vr22) rfl rfl (by kernel_rfl) (by kernel_rfl) (by kernel_rfl) (fun _ _ _ h => h) (by rfl) ?hyr22 (by with_reducible exact hHeld) ?restr22
            case hyr22 => (intro wS hSw; (try dsimp only at hSw); go_simp; try with_reducible rfl)
            try simp only [Act.put, List.setIfInBounds_toArray, List.set_cons_zero, List.set_cons_succ]
            refine take_on (i := 1) (some 98) (v := ?vr23) rfl rfl (by kernel_rfl) (by kernel_rfl) (by kernel_rfl) (fun _ _ _ h => h) (by rfl) ?hyr23 (by with_reducible exact hHeld) ?restr23
            case hyr23 => (intro wS hSw; (try dsimp only at hSw); go_simp; try with_reducible rfl)
            try simp only [Act.put, List.setIfInBounds_toArray, List.set_cons_zero, List.set_cons_succ]
            refine take_on (i := 2) (some 99) (v := ?vr24) rfl rfl (by kernel_rfl) (by kernel_rfl) (by kernel_rfl) (fun _ _ _ h => h) (by rfl) ?hyr24 (by with_reducible exact hHeld) ?restr24
            case hyr24 => (intro wS hSw; (try dsimp only at hSw); go_simp; try with_reducible rfl)
            try simp only [Act.put, List.setIfInBounds_toArray, List.set_cons_zero, List.set_cons_succ]
            refine take_on (i := 3) (some 100) (v := ?vr25) rfl rfl (by kernel_rfl) (by kernel_rfl) (by kernel_rfl) (fun _ _ _ h => h) (by rfl) ?hyr25 (by with_reducible exact hHeld) ?restr25
            case hyr25 => (intro wS hSw; (try dsimp only at hSw); go_simp; try with_reducible rfl)
            try simp only [Act.put, List.setIfInBounds_toArray, List.set_cons_zero, List.set_cons_succ]
            refine take_on (i := 5) (some 102) (v := ?vr26) rfl rfl (by kernel_rfl) (by kernel_rfl) (by kernel_rfl) (fun _ _ _ h => h) (by rfl) ?hyr26 (by with_reducible exact hHeld) ?restr26
            case hyr26 => (intro wS hSw; (try dsimp only at hSw); go_simp; try with_reducible rfl)
            try simp only [Act.put, List.setIfInBounds_toArray, List.set_cons_zero, List.set_cons_succ]
            refine take_on (i := 6) (some 103) (v := ?vr27) rfl rfl (by kernel_rfl) (by kernel_rfl) (by kernel_rfl) (fun _ _ _ h => h) (by rfl) ?hyr27 (by with_reducible exact hHeld) ?restr27
            case hyr27 => (intro wS hSw; (try dsimp only at hSw); go_simp; try with_reducible rfl)
            try simp only [Act.put, List.setIfInBounds_toArray, List.set_cons_zero, List.set_cons_succ]
            refine take_on (i := 7) (some 104) (v := ?vr28) rfl rfl (by kernel_rfl) (by kernel_rfl) (by kernel_rfl) (fun _ _ _ h => h) (by rfl) ?hyr28 (by with_reducible exact hHeld) ?restr28
            case hyr28 => (intro wS hSw; (try dsimp only at hSw); go_simp; try with_reducible rfl)
            try simp only [Act.put, List.setIfInBounds_toArray, List.set_cons_zero, List.set_cons_succ]
            refine take_on (i := 8) (some 105) (v := ?vr29) rfl rfl (by kernel_rfl) (by kernel_rfl) (by kernel_rfl) (fun _ _ _ h => h) (by rfl) ?hyr29 (by with_reducible exact hHeld) ?restr29
            case hyr29 => (intro wS hSw; (try dsimp only at hSw); go_simp; try with_reducible rfl)
            try simp only [Act.put, List.setIfInBounds_toArray, List.set_cons_zero, List.set_cons_succ]
            refine take_on (i := 9) (some 106) (v := ?vr30) rfl rfl (by kernel_rfl) (by kernel_rfl) (by kernel_rfl) (fun _ _ _ h => h) (by rfl) ?hyr30 (by with_reducible exact hHeld) ?restr30
            case hyr30 => (intro wS hSw; (try dsimp only at hSw); go_simp; try with_reducible rfl)
            try simp only [Act.put, List.setIfInBounds_toArray, List.set_cons_zero, List.set_cons_succ]
            refine take_on (i := 10) (some 107) (v := ?vr31) rfl rfl (by kernel_rfl) (by kernel_rfl) (by kernel_rfl) (fun _ _ _ h => h) (by rfl) ?hyr31 (by with_reducible exact hHeld) ?restr31
            case hyr31 => (intro wS hSw; (try dsimp only at hSw); go_simp; try with_reducible rfl)
            try simp only [Act.put, List.setIfInBounds_toArray, List.set_cons_zero, List.set_cons_succ]
            refine wpAnyH_ready (rs := [4]) (by kernel_rfl) (by simp) ?_
            refine AllReadyH.cons rfl (fun K hK => ?_) AllReadyH.nil
            go_simp
            with_reducible refine g3.out.mono ?_
            rintro e w6 ⟨rfl, rfl⟩
            clear g3
            refine hK.out _ _ (⟨S5.out.cellh hk3, CV.out⟩) (fun hHeld => ?_)
            clear hK K
            try simp only [Act.put, List.setIfInBounds_toArray, List.set_cons_zero, List.set_cons_succ]
            refine take_on (i := 11) (some 108) (v := ?vr32) rfl rfl (by kernel_rfl) (by kernel_rfl) (by kernel_rfl) (fun _ _ _ h => h) (by rfl) ?hyr32 (by with_reducible exact hHeld) ?restr32
            case hyr32 => (intro wS hSw; (try dsimp only at hSw); go_simp; try with_reducible rfl)
            try simp only [Act.put, List.setIfInBounds_toArray, List.set_cons_zero, List.set_cons_succ]
            refine wpAnyH_done (by kernel_rfl) ?_ _
            refine NoPanic.normal ?_
            go_wp2
            go_roundw
            case rel => exact ⟨i + 1, G, V, by omega, by go_num, S5.out, Lib.hid (fun q hq => by have := HG2.out q hq; omega)⟩
            case measure => simp [intOf]; omega
          · have k2' : (kind == 2) = false := by rw [beq_eq_false_iff_ne]; exact k2
            by_cases k3 : kind = 3
            · subst k3
              clear k0 k0' k1 k1' k2 k2'
              have ch : w4.cell? ⟨Hh, k, none⟩ = some (ptrOf (hb k)) := S4.out.cellh hk3
              have g2 := Lib.hid (reset_any ksL startS (hb k) (G k) (G k).length w4 (S4.out.hs k hk3) (HS.out.below S4.out.bel))
              go_wp2_with fail
              refine g2.out.mono ?_
              rintro e w5 ⟨rfl, hS5, hC5⟩
              have S5 := Lib.hid (S4.out.wrote (g := []) hk3 (HNE3.out k · hk3) hS5 hC5 (HGE.out k))
              have ca : w5.cell? ⟨Hh + 1, k, none⟩ = some (V k) := S5.out.cella hk3
              have fa := S5.out.al.frozen k
              have S6 := Lib.hid (S5.out.put (f := []) (v := nilS) hk3 (Own.nil_ _ _ _ _) (only_refl w5 _) (fun j _ _ q e => by cases e) (by omega))
              clear g2 hS5 hC5 S4 Q4 tc0 tc2 ch S5
              go_wp2
              go_roundw
              case rel => exact ⟨i + 1, upd G k [], upd V k nilS, by omega, by go_num, S6.out, Lib.hid (fun q hq => by
                have h1 := HG2.out q hq
                by_cases e : q = k
                · subst e; rw [upd_same]; simp; omega
                · rw [upd_ne _ _ e]; omega)⟩
              case measure => simp [intOf]; omega
            · have k3' : (kind == 3) = false := by rw [beq_eq_false_iff_ne]; exact k3
              go_wp2
              go_roundw
              case rel => exact ⟨i + 1, G, V, by omega, by go_num, S4.out, Lib.hid (fun q hq => by have := HG2.out q hq; omega)⟩
              case measure => simp [intOf]; omega
    · obtain rfl : i = n := by omega
      have HG3 := Lib.hid (show ∀ k, k < 3 → (G k).length ≤ 1048576 from fun k hk => by have := hG.out k hk; omega)
      clear hG
      go_wp2_with fail
      go_loopw [10] (fun t10 wr => ∃ k : Nat, k ≤ 3 ∧ t10 = .int .i64 (k : Int) ∧ StrS w wr Hh (Hh + 1) hb G G V) (fun t10 _ => 3 - (intOf t10).toNat)
      case atStart => exact ⟨0, by omega, rfl, hS⟩
      case round =>
        obtain ⟨k, hk, rfl, hS'⟩ := hrel
        clear hS
        by_cases hk3 : k < 3
        · have hk3' : (k : Int) < 3 := by omega
          have i3 : (0 : Int) ≤ (k : Int) ∧ (k : Int) < 3 := by omega
          have HG2 := HG3
          have S4 := Lib.hid hS'
          clear hS'
          have hlk := HG2.out k hk3
          have ch : wr.cell? ⟨Hh, k, none⟩ = some (ptrOf (hb k)) := S4.out.cellh hk3
          have g2 := Lib.hid (sum_any ksL ksL_len startS (hb k) (G k) wr (S4.out.hs k hk3) (by omega) (HT.out.below S4.out.bel))
          obtain ⟨D, hD⟩ : ∃ D, D = digestL ksL startS (G k) := ⟨_, rfl⟩
          rw [← hD] at g2
          have HD := Lib.hid hD
          have HND := Lib.hid (show D.length = 32 by rw [hD]; exact digestL_len _ _ _)
          clear hD
          go_wp2_with fail
          refine g2.out.mono ?_
          rintro e w5 ⟨rfl, hB5⟩
          have S5 := Lib.hid (S4.out.below hB5)
          obtain ⟨R, hR⟩ : ∃ R, R = w5.heap.size := ⟨_, rfl⟩
          have HR := Lib.hid hR
          have q0 : Blk (w5.alloc (.cells (arr encB zero32) 36)) R 36 (arr encB zero32) := by rw [hR]; exact Blk.new w5 _ _
          have B5 := Lib.hid ((Below.refl w5.heap.size w5).alloc (Nat.le_refl _) (.cells (arr encB zero32) 36))
          clear g2 hB5 hR ch S4
          go_wp2_with (first
            | rw [← HR.out]
            | ((with_reducible refine wpList_store_blk rfl 36 (.tmp 11) (.tmp 127) rfl R 36 (arr encB zero32) (arr encB D) ?hb rfl rfl (arrSz HND.out) ?hl (arr_one encB_one _) ?_); (case hb => exact q0); (case hl => rw [arr_size, arr_size, zero32_len, HND.out]); intro w6 b6 hg6 hs6; clear hs6))
          have S6 := Lib.hid ((S5.out.below (below_only B5.out hg6 B5.out.size (by rw [HR.out]; exact Nat.le_refl _))).below (Below.refl w6.heap.size w6).drew)
          have b6d := b6.drew
          obtain ⟨A2, c2, hV, _, r2, _⟩ := (S6.out.own k hk3).slice
          obtain ⟨L, hL⟩ : ∃ L, L = (G k).length := ⟨_, rfl⟩
          rw [← hL] at hV
          have HL := Lib.hid hL
          have cv : ∀ v, StrS w v Hh (Hh + 1) hb G G V → v.cell? ⟨Hh + 1, k, none⟩ = some (.slice A2 L c2) := fun v h => by rw [h.cella hk3, hV]
          have CV := Lib.hid cv
          have g3 := Lib.hid (refSum_any A2 c2 L (G k) w6.drew hL.symm (by omega) r2 (HTB.out.below S6.out.bel) (HTQ.out.below S6.out.bel))
          rw [← HD.out] at g3
          clear S5 B5 hg6 q0 b6 hL hV cv r2
          go_wp2_with fail
          have wu : IntKind.u64.wrap (L : Int) = (L : Int) := by have := HL.out; rw [IntKind.wrap_u64]; omega
          refine wp_region_noPanic ?_
          refine wp_region_held_drew (S := fun w' => w'.rangeAt R 0 (D.map encB) ∧ w'.cell? ⟨Hh, k, none⟩ = some (ptrOf (hb k)) ∧ w'.cell? ⟨Hh + 1, k, none⟩ = some (.slice A2 L c2)) (by kernel_rfl) (⟨rng_of_blkS b6d, S6.out.cellh hk3, CV.out _ S6.out⟩) (fun hHeld => ?_)
          refine take_on (i := 0) (some 128) (v := .agg (D.map encB).toArray) rfl rfl (by kernel_rfl) (by kernel_rfl) (by kernel_rfl) (fun _ _ _ h => h) (by rfl) ?hyr33 (by with_reducible exact hHeld) ?restr33
          case hyr33 => exact fun wS hSw => exec_load_mid _ _ rfl _ _ rfl _ _ (hSw.1) arrTy rfl (size32S HND.out)
          try simp only [Act.put, List.setIfInBounds_toArray, List.set_cons_zero, List.set_cons_succ]
          refine take_on (i := 1) (some 129) (v := ?vr34) rfl rfl (by kernel_rfl) (by kernel_rfl) (by kernel_rfl) (fun _ _ _ h => h) (by rfl) ?hyr34 (by with_reducible exact hHeld) ?restr34
          case hyr34 => (intro wS hSw; (try dsimp only at hSw); go_simp; try with_reducible rfl)
          try simp only [Act.put, List.setIfInBounds_toArray, List.set_cons_zero, List.set_cons_succ]
          refine take_on (i := 2) (some 130) (v := ?vr35) rfl rfl (by kernel_rfl) (by kernel_rfl) (by kernel_rfl) (fun _ _ _ h => h) (by rfl) ?hyr35 (by with_reducible exact hHeld) ?restr35
          case hyr35 => (intro wS hSw; (try dsimp only at hSw); go_simp; try with_reducible rfl)
          try simp only [Act.put, List.setIfInBounds_toArray, List.set_cons_zero, List.set_cons_succ]
          refine take_on (i := 3) (some 131) (v := ?vr36) rfl rfl (by kernel_rfl) (by kernel_rfl) (by kernel_rfl) (fun _ _ _ h => h) (by rfl) ?hyr36 (by with_reducible exact hHeld) ?restr36
          case hyr36 => (intro wS hSw; (try dsimp only at hSw); go_simp; try with_reducible rfl)
          try simp only [Act.put, List.setIfInBounds_toArray, List.set_cons_zero, List.set_cons_succ]
          refine take_on (i := 4) (some 132) (v := ?vr37) rfl rfl (by kernel_rfl) (by kernel_rfl) (by kernel_rfl) (fun _ _ _ h => h) (by rfl) ?hyr37 (by with_reducible exact hHeld) ?restr37
          case hyr37 => (intro wS hSw; (try dsimp only at hSw); go_simp; try with_reducible rfl)
          try simp only [Act.put, List.setIfInBounds_toArray, List.set_cons_zero, List.set_cons_succ]
          refine wpAnyH_ready (rs := [5]) (by kernel_rfl) (by simp) ?_
          refine AllReadyH.cons rfl (fun K hK => ?_) AllReadyH.nil
          go_simp
          with_reducible refine g3.out.mono ?_
          rintro e w7 ⟨rfl, hB7⟩
          have S7 := Lib.hid (S6.out.below hB7)
          have b7 := b6d.below hB7 b6d.lt
          have g4 := Lib.hid (equal_any D D w7 HND.out HND.out)
          rw [show decide (D = D) = true from decide_eq_true rfl] at g4
          clear g3 hB7 S6 b6d
          refine hK.out _ _ (⟨rng_of_blkS b7, S7.out.cellh hk3, CV.out _ S7.out⟩) (fun hHeld => ?_)
          clear hK K
          try simp only [Act.put, List.setIfInBounds_toArray, List.set_cons_zero, List.set_cons_succ]
          refine wpAnyH_ready (rs := [6]) (by kernel_rfl) (by simp) ?_
          refine AllReadyH.cons rfl (fun K hK => ?_) AllReadyH.nil
          go_simp
          refine g4.out.mono ?_
          rintro e w8 ⟨rfl, hB8⟩
          have S8 := Lib.hid (S7.out.below hB8)
          have b8 := b7.below hB8 b7.lt
          clear g4 hB8 S7 b7
          have g5 := Lib.hid (count_any ksL startS (hb k) (G k) L w8 (by rw [HL.out]; exact S8.out.hs k hk3))
          refine hK.out _ _ (⟨rng_of_blkS b8, S8.out.cellh hk3, CV.out _ S8.out⟩) (fun hHeld => ?_)
          clear hK K
          try simp only [Act.put, List.setIfInBounds_toArray, List.set_cons_zero, List.set_cons_succ]
          refine take_on (i := 7) (some 135) (v := ?vr38) rfl rfl (by kernel_rfl) (by kernel_rfl) (by kernel_rfl) (fun _ _ _ h => h) (by rfl) ?hyr38 (by with_reducible exact hHeld) ?restr38
          case hyr38 => (intro wS hSw; (try dsimp only at hSw); go_simp; try with_reducible rfl)
          try simp only [Act.put, List.setIfInBounds_toArray, List.set_cons_zero, List.set_cons_succ]
          refine take_on (i := 8) (some 136) (v := ?vr39) rfl rfl (by kernel_rfl) (by kernel_rfl) (by kernel_rfl) (fun _ _ _ h => h) (by rfl) ?hyr39 (by with_reducible exact hHeld) ?restr39
          case hyr39 => (intro wS hSw; (try dsimp only at hSw); go_simp; try with_reducible rfl)
          try simp only [Act.put, List.setIfInBounds_toArray, List.set_cons_zero, List.set_cons_succ]
          refine take_on (i := 9) (some 137) (v := ?vr40) rfl rfl (by kernel_rfl) (by kernel_rfl) (by kernel_rfl) (fun _ _ _ h => h) (by rfl) ?hyr40 (by with_reducible exact hHeld) ?restr40
          case hyr40 => (intro wS hSw; (try dsimp only at hSw); go_simp; try with_reducible rfl)
          try simp only [Act.put, List.setIfInBounds_toArray, List.set_cons_zero, List.set_cons_succ]
          refine take_on (i := 10) (some 138) (v := ?vr41) rfl rfl (by kernel_rfl) (by kernel_rfl) (by kernel_rfl) (fun _ _ _ h => h) (by rfl) ?hyr41 (by with_reducible exact hHeld) ?restr41
          case hyr41 => (intro wS hSw; (try dsimp only at hSw); go_simp; try with_reducible rfl)
          try simp only [Act.put, List.setIfInBounds_toArray, List.set_cons_zero, List.set_cons_succ]
          refine take_on (i := 11) (some 139) (v := ?vr42) rfl rfl (by kernel_rfl) (by kernel_rfl) (by kernel_rfl) (fun _ _ _ h => h) (by rfl) ?hyr42 (by with_reducible exact hHeld) ?restr42
          case hyr42 => (intro wS hSw; (try dsimp only at hSw); go_simp; try with_reducible rfl)
          try simp only [Act.put, List.setIfInBounds_toArray, List.set_cons_zero, List.set_cons_succ]
          refine take_on (i := 12) (some 140) (v := ?vr43) rfl rfl (by kernel_rfl) (by kernel_rfl) (by kernel_rfl) (fun _ _ _ h => h) (by rfl) ?hyr43 (by with_reducible exact hHeld) ?restr43
          case hyr43 => (intro wS hSw; (try dsimp only at hSw); go_simp; try with_reducible rfl)
          try simp only [Act.put, List.setIfInBounds_toArray, List.set_cons_zero, List.set_cons_succ]
          refine take_on (i := 14) (some 142) (v := ?vr44) rfl rfl (by kernel_rfl) (by kernel_rfl) (by kernel_rfl) (fun _ _ _ h => h) (by rfl) ?hyr44 (by with_reducible exact hHeld) ?restr44
          case hyr44 => (intro wS hSw; (try dsimp only at hSw); go_simp; try with_reducible rfl)
          try simp only [Act.put, List.setIfInBounds_toArray, List.set_cons_zero, List.set_cons_succ]
          refine take_on (i := 15) (some 143) (v := ?vr45) rfl rfl (by kernel_rfl) (by kernel_rfl) (by kernel_rfl) (fun _ _ _ h => h) (by rfl) ?hyr45 (by with_reducible exact hHeld) ?restr45
          case hyr45 => (intro wS hSw; (try dsimp only at hSw); go_simp; try with_reducible rfl)
          try simp only [Act.put, List.setIfInBounds_toArray, List.set_cons_zero, List.set_cons_succ]
          refine take_on (i := 16) (some 144) (v := ?vr46) rfl rfl (by kernel_rfl) (by kernel_rfl) (by kernel_rfl) (fun _ _ _ h => h) (by rfl) ?hyr46 (by with_reducible exact hHeld) ?restr46
          case hyr46 => (intro wS hSw; (try dsimp only at hSw); go_simp; try with_reducible rfl)
          try simp only [Act.put, List.setIfInBounds_toArray, List.set_cons_zero, List.set_cons_succ]
          refine take_on (i := 17) (some 145) (v := ?vr47) rfl rfl (by kernel_rfl) (by kernel_rfl) (by kernel_rfl) (fun _ _ _ h => h) (by rfl) ?hyr47 (by with_reducible exact hHeld) ?restr47
          case hyr47 => (intro wS hSw; (try dsimp only at hSw); go_simp; try with_reducible rfl)
          try simp only [Act.put, List.setIfInBounds_toArray, List.set_cons_zero, List.set_cons_succ]
          refine take_on (i := 18) (some 146) (v := ?vr48) rfl rfl (by kernel_rfl) (by kernel_rfl) (by kernel_rfl) (fun _ _ _ h => h) (by rfl) ?hyr48 (by with_reducible exact hHeld) ?restr48
          case hyr48 => (intro wS hSw; (try dsimp only at hSw); go_simp; try with_reducible rfl)
          try simp only [Act.put, List.setIfInBounds_toArray, List.set_cons_zero, List.set_cons_succ]
          refine take_on (i := 19) (some 147) (v := ?vr49) rfl rfl (by kernel_rfl) (by kernel_rfl) (by kernel_rfl) (fun _ _ _ h => h) (by rfl) ?hyr49 (by with_reducible exact hHeld) ?restr49
          case hyr49 => (intro wS hSw; (try dsimp only at hSw); go_simp; try with_reducible rfl)
          try simp only [Act.put, List.setIfInBounds_toArray, List.set_cons_zero, List.set_cons_succ]
          refine wpAnyH_ready (rs := [13]) (by kernel_rfl) (by simp) ?_
          refine AllReadyH.cons rfl (fun K hK => ?_) AllReadyH.nil
          go_simp
          with_reducible refine g5.out.mono ?_
          rintro e w9 ⟨rfl, rfl⟩
          clear g5
          refine hK.out _ _ (⟨rng_of_blkS b8, S8.out.cellh hk3, CV.out _ S8.out⟩) (fun hHeld => ?_)
          clear hK K
          try simp only [Act.put, List.setIfInBounds_toArray, List.set_cons_zero, List.set_cons_succ]
          refine take_on (i := 20) (some 148) (v := ?vr50) rfl rfl (by kernel_rfl) (by kernel_rfl) (by kernel_rfl) (fun _ _ _ h => h) (by rfl) ?hyr50 (by with_reducible exact hHeld) ?restr50
          case hyr50 => (intro wS hSw; (try dsimp only at hSw); go_simp; try with_reducible rfl)
          try simp only [Act.put, List.setIfInBounds_toArray, List.set_cons_zero, List.set_cons_succ]
          refine take_on (i := 21) (some 149) (v := ?vr51) rfl rfl (by kernel_rfl) (by kernel_rfl) (by kernel_rfl) (fun _ _ _ h => h) (by rfl) ?hyr51 (by with_reducible exact hHeld) ?restr51
          case hyr51 => (intro wS hSw; (try dsimp only at hSw); go_simp; try with_reducible rfl)
          try simp only [Act.put, List.setIfInBounds_toArray, List.set_cons_zero, List.set_cons_succ]
          refine wpAnyH_done (by kernel_rfl) ?_ _
          refine NoPanic.normal ?_
          go_wp2
          go_roundw
          case rel => exact ⟨k + 1, by omega, by go_num, S8.out⟩
          case measure => simp [intOf]; omega
        · obtain rfl : k = 3 := by omega
          go_wp2
          go_ret
          exact ⟨rfl, hS'.bel⟩
end Go.Proofs.YtepikbmlhejobaaDoor
