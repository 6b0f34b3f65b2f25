/- Package replicalaw10: the Book: keep, by contract. -/
import Derived.Test.YtagkhhoimgighaaTlBw
namespace Go.Proofs.Ytagkhhoimgighaa
open Go.RowKit
set_option linter.unusedVariables false
set_option linter.unusedSimpArgs false
/-- the Book: so many lists that stand fresh, so many kept -/
def BkAt (w : World) (B fn kn : Nat) (mk : Int) (F : Nat → Nat → Prop) : Prop := ∃ V, BkR w B mk V ∧ (V 0).P.map PV.l = (V 1).P.map PV.l ∧ (V 2).P.map PV.l = (V 3).P.map PV.l ∧ (V 0).P.length = fn ∧ (V 2).P.length = kn ∧ (∀ p ∈ (V 0).P, p.n ≤ 2000) ∧ ∀ k i, F k i ↔ BkF V B k i
theorem BkAt.lt {w : World} {B fn kn : Nat} {mk : Int} {F : Nat → Nat → Prop} (h : BkAt w B fn kn mk F) {k i : Nat} (hk : F k i) : k < w.heap.size := by
  obtain ⟨V, h1, _, _, _, _, _, h2⟩ := h
  exact h1.fp_lt ((h2 k i).1 hk)
theorem BkAt.chg {w w' : World} {B fn kn : Nat} {mk : Int} {F F' : Nat → Nat → Prop} (h : BkAt w B fn kn mk F) (hc : Chg F' w w') (hn : ∀ k i, F k i → ¬ F' k i) : BkAt w' B fn kn mk F := by
  obtain ⟨V, h1, h2, h3, h4, h5, h7, h6⟩ := h
  exact ⟨V, h1.chg hc fun k i hk => hn k i ((h6 k i).2 hk), h2, h3, h4, h5, h7, h6⟩
set_option maxRecDepth 20000 in
set_option maxHeartbeats 16000000 in
theorem keep_any (B fn kn n : Nat) (mk : Int) (F : Nat → Nat → Prop) (A : Option Addr) (l : List Ent3) (w : World) (h : BkAt w B fn kn mk F) (hfn : fn ≤ 1) (hp : okP w ⟨A, n, n, l⟩) (hn : n ≤ 2000) (hkb : kn ≤ 100000000) (hm : 0 ≤ mk ∧ mk ≤ 100000000000) (hap : ∀ k i, cellsP ⟨A, n, n, l⟩ k i → ¬ F k i) :
    Calls Try.prog 38 #[.pointer (some ⟨B, 0, none⟩), .slice A n n] w fun e w' => e = .returned (.tuple #[]) ∧ ∃ (fn' kn' : Nat) (mk' : Int) (F' : Nat → Nat → Prop), BkAt w' B fn' kn' mk' F' ∧ fn' ≤ 1 ∧ kn' ≤ kn + 4 ∧ mk ≤ mk' ∧ mk' ≤ mk + 2 ∧
      Chg (fun k i => F k i ∨ cellsP ⟨A, n, n, l⟩ k i) w w' ∧ (∀ k i, F' k i → F k i ∨ cellsP ⟨A, n, n, l⟩ k i ∨ w.heap.size ≤ k) := by
  obtain ⟨V, h1, l01, l23, hl0, hl2, hbd, hF⟩ := h
  have HBD := Lib.hid hbd
  clear hbd
  have HB := Lib.hid h1
  have HP := Lib.hid hp
  have HF := Lib.hid hF
  have HAP := Lib.hid (show ∀ k i, cellsP ⟨A, n, n, l⟩ k i → ¬ BkF V B k i from fun k i hk hb => hap k i hk ((hF k i).2 hb))
  have H01 := Lib.hid l01
  have H23 := Lib.hid l23
  have HK0 := Lib.hid hl0
  have HK2 := Lib.hid hl2
  have HK1 := Lib.hid (show (V 1).P.length = fn by have := congrArg List.length l01; simp at this; omega)
  have HFL := Lib.hid (fun k i (hk : BkF V B k i) => h1.fp_lt hk)
  have HCL := Lib.hid (fun k i (hk : cellsP ⟨A, n, n, l⟩ k i) => (by obtain ⟨cs, hb⟩ := hp.cells hk; exact hb.lt : k < w.heap.size))
  clear h1 hp hF l01 l23 hl0 hl2 hap
  go_enter Try.func38, Try.ntmps38
  have ba : w.cell? ⟨B, 0, none⟩ = some (.slice (V 0).A fn (V 0).c) := by rw [← HK0.out]; exact HB.out.cell 0
  have Gaa := Lib.hid (show GSl encP 1 27 (w.alloc (.cells #[.slice A n n] 27)) (V 0).A (V 0).c (V 0).P from (HB.out.row 0).chg (Chg.alloc (fun _ _ => False) w (.cells #[.slice A n n] 27)) encP_len fun _ _ _ h => h)
  have Rna := Lib.hid (show RdS encP 1 (w.alloc (.cells #[.slice A n n] 27)) (some ⟨w.heap.size, 0, none⟩) [(⟨A, n, n, l⟩ : PV)] from RdS.new1 encP 1 w 27 ⟨A, n, n, l⟩)
  have HLa := Lib.hid (show ((V 0).P ++ [(⟨A, n, n, l⟩ : PV)]).length = fn + 1 by rw [List.length_append, HK0.out]; rfl)
  go_upto_region 1 with (
    at_builtin
    refine wpList_appendG slTy2 (by decide) encP_len encP_one rfl (.tmp 10) (.tmp 12) rfl (V 0).A (V 0).c (V 0).P (by rw [HK0.out]; rfl) Gaa.out (some ⟨w.heap.size, 0, none⟩) 1 [(⟨A, n, n, l⟩ : PV)] rfl Rna.out (by rw [HK0.out]; simp only [maxLen, List.length_singleton]; omega) (by rw [HK0.out]; simp only [List.length_singleton]; omega) ?_
    intro A6 c6 w8 h8 k8 q8
    rw [HLa.out]
    obtain ⟨Va, P1, P3, P4⟩ := HB.out.pushed ((Below.refl w.heap.size w).alloc (Nat.le_refl _) (.cells #[.slice A n n] 27)) 0 h8 k8 q8 (HP.out.below ((Below.refl w.heap.size w).alloc (Nat.le_refl _) (.cells #[.slice A n n] 27))) (fun _ => rfl) (fun j q hq _ => fun k i hk hk2 => HAP.out k i hk2 (.inr (.inr ⟨j, q, hq, hk⟩)))
    rw [HLa.out] at P1
    have P3' : w8.cell? ⟨B, 0, none⟩ = some (.slice (V 0).A fn (V 0).c) := by rw [← HK0.out]; exact P3
    have P4' : w8.frozen? ⟨B, 0, none⟩ = false := P4
    have HPa := Lib.hid (show Pushed B mk 0 ⟨A, n, n, l⟩ w (w8.setCell ⟨B, 0, none⟩ (.slice A6 (fn + 1) c6)) V Va from P1)
    clear h8 k8 q8 P1 P3 P4
    )
  obtain ⟨va, hva⟩ : ∃ u, u = w8.setCell ⟨B, 0, none⟩ (.slice A6 (fn + 1) c6) := ⟨_, rfl⟩
  rw [← hva] at HPa ⊢
  clear hva P3' P4' Gaa Rna ba
  have Ba := Lib.hid HPa.out.bk
  have Oa := Lib.hid (HPa.out.okP HB.out HP.out)
  have Ka1 := Lib.hid (show (Va 1).P.length = fn by rw [HPa.out.oth 1 (by decide)]; exact HK1.out)
  have cb : ∀ u, Below va.heap.size va u → u.cell? ⟨B, 1, none⟩ = some (.slice (Va 1).A fn (Va 1).c) := fun u hu => by rw [← Ka1.out]; exact (Ba.out.below hu).cell 1
  have CB := Lib.hid cb
  have BE := Lib.hid (show Below va.heap.size va (va.alloc (.cells #[] 36)).drew from ((Below.refl va.heap.size va).alloc (Nat.le_refl _) _).drew)
  have cb0 := CB.out va.drew (Below.refl _ _).drew
  have cb1 := CB.out _ BE.out
  have GE := Lib.hid (show GSl encE 3 36 (va.alloc (.cells #[] 36)).drew (some ⟨va.heap.size, 0, none⟩) 0 [] from (GSl.empty encE 3 36 va))
  have RE := Lib.hid (show RdS encE 3 (va.alloc (.cells #[] 36)).drew A l from (Oa.out.below BE.out).1.rds)
  have NL := Lib.hid (show l.length = n from Oa.out.2)
  clear cb
  go_cut [] (fun wx => ∃ (Aw : Option Addr) (cw : Nat) (Vb : Fin 4 → RV), Pushed B mk 1 ⟨Aw, n, cw, l⟩ va wx Va Vb ∧ (∀ k, blkOf Aw k → va.heap.size ≤ k))
  case first =>
    refine wp_region_noPanic ?_
    refine wp_region_held_drew (S := fun w' => True) (by kernel_rfl) (trivial) (fun hHeld => ?_)
    refine take_on (i := 0) (some 16) (v := ?vr1) rfl rfl (by kernel_rfl) (by kernel_rfl) (by kernel_rfl) (fun _ _ _ h => h) (by rfl) ?hyr1 (by with_reducible exact hHeld) ?restr1
    case hyr1 => (intro wS hSw; (try dsimp only at hSw); go_simp; try with_reducible rfl)
    try simp only [Act.put, List.setIfInBounds_toArray, List.set_cons_zero, List.set_cons_succ]
    refine take_on (i := 1) (some 17) (v := ?vr2) rfl rfl (by kernel_rfl) (by kernel_rfl) (by kernel_rfl) (fun _ _ _ h => h) (by rfl) ?hyr2 (by with_reducible exact hHeld) ?restr2
    case hyr2 => (intro wS hSw; (try dsimp only at hSw); go_simp; try with_reducible rfl)
    try simp only [Act.put, List.setIfInBounds_toArray, List.set_cons_zero, List.set_cons_succ]
    refine take_on (i := 2) (some 18) (v := ?vr3) rfl rfl (by kernel_rfl) (by kernel_rfl) (by kernel_rfl) (fun _ _ _ h => h) (by rfl) ?hyr3 (by with_reducible exact hHeld) ?restr3
    case hyr3 => (intro wS hSw; (try dsimp only at hSw); go_simp; try with_reducible rfl)
    try simp only [Act.put, List.setIfInBounds_toArray, List.set_cons_zero, List.set_cons_succ]
    refine take_on (i := 3) (some 19) (v := ?vr4) rfl rfl (by kernel_rfl) (by kernel_rfl) (by kernel_rfl) (fun _ _ _ h => h) (by rfl) ?hyr4 (by with_reducible exact hHeld) ?restr4
    case hyr4 => (intro wS hSw; (try dsimp only at hSw); go_simp; try with_reducible rfl)
    try simp only [Act.put, List.setIfInBounds_toArray, List.set_cons_zero, List.set_cons_succ]
    refine take_on (i := 6) (some 22) (v := ?vr5) rfl rfl (by kernel_rfl) (by kernel_rfl) (by kernel_rfl) (fun _ _ _ h => h) (by rfl) ?hyr5 (by with_reducible exact hHeld) ?restr5
    case hyr5 => (intro wS hSw; (try dsimp only at hSw); go_simp; try with_reducible rfl)
    try simp only [Act.put, List.setIfInBounds_toArray, List.set_cons_zero, List.set_cons_succ]
    refine wpAnyH_ready (rs := [4, 5]) (by kernel_rfl) (by simp) ?_
    refine AllReadyH.cons rfl (fun K hK => ?_) ?_
    · go_simp
      refine hK.out _ _ trivial (fun hHeld => ?_)
      clear hK K
      try simp only [Act.put, List.setIfInBounds_toArray, List.set_cons_zero, List.set_cons_succ]
      refine wpAnyH_ready (rs := [5]) (by kernel_rfl) (by simp) ?_
      refine AllReadyH.cons rfl (fun K hK => ?_) AllReadyH.nil
      go_simp
      refine hK.out _ _ trivial (fun hHeld => ?_)
      clear hK K
      try simp only [Act.put, List.setIfInBounds_toArray, List.set_cons_zero, List.set_cons_succ]
      refine wpAnyH_ready (rs := [7]) (by kernel_rfl) (by simp) ?_
      refine AllReadyH.cons rfl (fun K hK => ?_) AllReadyH.nil
      refine step_appendG entTy (by decide) encE_len encE_one (by rfl) (.tmp 21) (.tmp 22) (by rfl) (some ⟨va.heap.size, 0, none⟩) 0 [] (by rfl) GE.out A n l (by rw [NL.out]; rfl) RE.out (by rw [NL.out]; simp only [maxLen, List.length_nil]; omega) (by rw [NL.out]; simp only [List.length_nil]; omega) ?_
      intro Aw cw wc h7 k7 q7
      rw [List.nil_append] at h7 ⊢
      rw [NL.out]
      have BC := Lib.hid (show Below va.heap.size va wc from BE.out.trans (k7.below (by simp [World.drew]) fun k i _ hf => by
          obtain ⟨o, _, h3, h4⟩ := hf
          simp at h3 h4
          omega))
      have OC := Lib.hid (show okP wc ⟨Aw, n, cw, l⟩ from ⟨h7, NL.out⟩)
      have LC := Lib.hid (show ∀ k, blkOf Aw k → va.heap.size ≤ k from fun k hk => by
          obtain ⟨a, e, rfl⟩ := hk
          rcases q7 with ⟨e1, _⟩ | ⟨g, e1, hg⟩
          · rw [e1] at e; cases e; exact Nat.le_refl _
          · rw [e1] at e; cases e
            simp [World.drew] at hg
            show va.heap.size ≤ g
            omega)
      have cb2 := CB.out wc BC.out
      have BD := Lib.hid (BC.out.trans (((Below.refl wc.heap.size wc).alloc (Nat.le_refl _) (.cells #[.slice Aw n cw] 27)).mono BC.out.size))
      have cb3 := CB.out _ BD.out
      have GD := Lib.hid (show GSl encP 1 27 (wc.alloc (.cells #[.slice Aw n cw] 27)) (Va 1).A (Va 1).c (Va 1).P from (Ba.out.below BD.out).row 1)
      have RD := Lib.hid (show RdS encP 1 (wc.alloc (.cells #[.slice Aw n cw] 27)) (some ⟨wc.heap.size, 0, none⟩) [(⟨Aw, n, cw, l⟩ : PV)] from RdS.new1 encP 1 wc 27 ⟨Aw, n, cw, l⟩)
      have HL9 := Lib.hid (show ((Va 1).P ++ [(⟨Aw, n, cw, l⟩ : PV)]).length = fn + 1 by rw [List.length_append, Ka1.out]; rfl)
      clear h7 k7 q7
      refine hK.out _ _ trivial (fun hHeld => ?_)
      clear hK K
      try simp only [Act.put, List.setIfInBounds_toArray, List.set_cons_zero, List.set_cons_succ]
      refine wpAnyH_ready (rs := [8]) (by kernel_rfl) (by simp) ?_
      refine AllReadyH.cons rfl (fun K hK => ?_) AllReadyH.nil
      go_simp
      refine hK.out _ _ trivial (fun hHeld => ?_)
      clear hK K
      try simp only [Act.put, List.setIfInBounds_toArray, List.set_cons_zero, List.set_cons_succ]
      refine wpAnyH_ready (rs := [9]) (by kernel_rfl) (by simp) ?_
      refine AllReadyH.cons rfl (fun K hK => ?_) AllReadyH.nil
      refine step_appendG slTy2 (by decide) encP_len encP_one (by rfl) (.tmp 20) (.tmp 24) (by rfl) (Va 1).A (Va 1).c (Va 1).P (by rw [Ka1.out]; rfl) GD.out (some ⟨wc.heap.size, 0, none⟩) 1 [(⟨Aw, n, cw, l⟩ : PV)] (by rfl) RD.out (by rw [Ka1.out]; simp only [maxLen, List.length_singleton]; omega) (by rw [Ka1.out]; simp only [List.length_singleton]; omega) ?_
      intro A9 c9 w9 h9 k9 q9
      rw [HL9.out]
      obtain ⟨Vb, P1, P3, P4⟩ := Ba.out.pushed BD.out 1 h9 k9 q9 (OC.out.below ((Below.refl wc.heap.size wc).alloc (Nat.le_refl _) _)) (fun e => absurd e (by decide)) (fun j q hq _ => fun k i hk hk2 => by
        have h1 := LC.out k (slFp_blk hk2)
        obtain ⟨cs, hb⟩ := (Ba.out.ok j q hq).cells hk
        have := hb.lt
        omega)
      rw [HL9.out] at P1
      have P3' : w9.cell? ⟨B, 1, none⟩ = some (.slice (Va 1).A fn (Va 1).c) := by rw [← Ka1.out]; exact P3
      have P4' : w9.frozen? ⟨B, 1, none⟩ = false := P4
      have HPB := Lib.hid (show Pushed B mk 1 ⟨Aw, n, cw, l⟩ va (w9.setCell ⟨B, 1, none⟩ (.slice A9 (fn + 1) c9)) Va Vb from P1)
      clear h9 k9 q9 P1 P3 P4
      refine hK.out _ _ trivial (fun hHeld => ?_)
      clear hK K
      try simp only [Act.put, List.setIfInBounds_toArray, List.set_cons_zero, List.set_cons_succ]
      refine take_on (i := 10) (some 26) (v := ?vr6) rfl rfl (by kernel_rfl) (by kernel_rfl) (by kernel_rfl) (fun _ _ _ h => h) (by rfl) ?hyr6 (by with_reducible exact hHeld) ?restr6
      case hyr6 => (intro wS hSw; (try dsimp only at hSw); go_simp; try with_reducible rfl)
      try simp only [Act.put, List.setIfInBounds_toArray, List.set_cons_zero, List.set_cons_succ]
      refine take_on (i := 11) (some 27) (v := ?vr7) rfl rfl (by kernel_rfl) (by kernel_rfl) (by kernel_rfl) (fun _ _ _ h => h) (by rfl) ?hyr7 (by with_reducible exact hHeld) ?restr7
      case hyr7 => (intro wS hSw; (try dsimp only at hSw); go_simp; try with_reducible rfl)
      try simp only [Act.put, List.setIfInBounds_toArray, List.set_cons_zero, List.set_cons_succ]
      refine wpAnyH_ready (rs := [12]) (by kernel_rfl) (by simp) ?_
      refine AllReadyH.cons rfl (fun K hK => ?_) AllReadyH.nil
      go_simp
      refine hK.out _ _ (trivial) (fun hHeld => ?_)
      clear hK K
      try simp only [Act.put, List.setIfInBounds_toArray, List.set_cons_zero, List.set_cons_succ]
      refine wpAnyH_done (by kernel_rfl) ?_ _
      refine NoPanic.normal ?_
      go_wp2
      go_meet
      exact ⟨Aw, cw, Vb, HPB.out, LC.out⟩
    · refine AllReadyH.cons rfl (fun K hK => ?_) AllReadyH.nil
      go_simp
      refine hK.out _ _ trivial (fun hHeld => ?_)
      clear hK K
      try simp only [Act.put, List.setIfInBounds_toArray, List.set_cons_zero, List.set_cons_succ]
      refine wpAnyH_ready (rs := [4, 7]) (by kernel_rfl) (by simp) ?_
      refine AllReadyH.cons rfl (fun K hK => ?_) ?_
      · go_simp
        refine hK.out _ _ trivial (fun hHeld => ?_)
        clear hK K
        try simp only [Act.put, List.setIfInBounds_toArray, List.set_cons_zero, List.set_cons_succ]
        refine wpAnyH_ready (rs := [7]) (by kernel_rfl) (by simp) ?_
        refine AllReadyH.cons rfl (fun K hK => ?_) AllReadyH.nil
        refine step_appendG entTy (by decide) encE_len encE_one (by rfl) (.tmp 21) (.tmp 22) (by rfl) (some ⟨va.heap.size, 0, none⟩) 0 [] (by rfl) GE.out A n l (by rw [NL.out]; rfl) RE.out (by rw [NL.out]; simp only [maxLen, List.length_nil]; omega) (by rw [NL.out]; simp only [List.length_nil]; omega) ?_
        intro Aw cw wc h7 k7 q7
        rw [List.nil_append] at h7 ⊢
        rw [NL.out]
        have BC := Lib.hid (show Below va.heap.size va wc from BE.out.trans (k7.below (by simp [World.drew]) fun k i _ hf => by
            obtain ⟨o, _, h3, h4⟩ := hf
            simp at h3 h4
            omega))
        have OC := Lib.hid (show okP wc ⟨Aw, n, cw, l⟩ from ⟨h7, NL.out⟩)
        have LC := Lib.hid (show ∀ k, blkOf Aw k → va.heap.size ≤ k from fun k hk => by
            obtain ⟨a, e, rfl⟩ := hk
            rcases q7 with ⟨e1, _⟩ | ⟨g, e1, hg⟩
            · rw [e1] at e; cases e; exact Nat.le_refl _
            · rw [e1] at e; cases e
              simp [World.drew] at hg
              show va.heap.size ≤ g
              omega)
        have cb2 := CB.out wc BC.out
        have BD := Lib.hid (BC.out.trans (((Below.refl wc.heap.size wc).alloc (Nat.le_refl _) (.cells #[.slice Aw n cw] 27)).mono BC.out.size))
        have cb3 := CB.out _ BD.out
        have GD := Lib.hid (show GSl encP 1 27 (wc.alloc (.cells #[.slice Aw n cw] 27)) (Va 1).A (Va 1).c (Va 1).P from (Ba.out.below BD.out).row 1)
        have RD := Lib.hid (show RdS encP 1 (wc.alloc (.cells #[.slice Aw n cw] 27)) (some ⟨wc.heap.size, 0, none⟩) [(⟨Aw, n, cw, l⟩ : PV)] from RdS.new1 encP 1 wc 27 ⟨Aw, n, cw, l⟩)
        have HL9 := Lib.hid (show ((Va 1).P ++ [(⟨Aw, n, cw, l⟩ : PV)]).length = fn + 1 by rw [List.length_append, Ka1.out]; rfl)
        clear h7 k7 q7
        refine hK.out _ _ trivial (fun hHeld => ?_)
        clear hK K
        try simp only [Act.put, List.setIfInBounds_toArray, List.set_cons_zero, List.set_cons_succ]
        refine wpAnyH_ready (rs := [8]) (by kernel_rfl) (by simp) ?_
        refine AllReadyH.cons rfl (fun K hK => ?_) AllReadyH.nil
        go_simp
        refine hK.out _ _ trivial (fun hHeld => ?_)
        clear hK K
        try simp only [Act.put, List.setIfInBounds_toArray, List.set_cons_zero, List.set_cons_succ]
        refine wpAnyH_ready (rs := [9]) (by kernel_rfl) (by simp) ?_
        refine AllReadyH.cons rfl (fun K hK => ?_) AllReadyH.nil
        refine step_appendG slTy2 (by decide) encP_len encP_one (by rfl) (.tmp 20) (.tmp 24) (by rfl) (Va 1).A (Va 1).c (Va 1).P (by rw [Ka1.out]; rfl) GD.out (some ⟨wc.heap.size, 0, none⟩) 1 [(⟨Aw, n, cw, l⟩ : PV)] (by rfl) RD.out (by rw [Ka1.out]; simp only [maxLen, List.length_singleton]; omega) (by rw [Ka1.out]; simp only [List.length_singleton]; omega) ?_
        intro A9 c9 w9 h9 k9 q9
        rw [HL9.out]
        obtain ⟨Vb, P1, P3, P4⟩ := Ba.out.pushed BD.out 1 h9 k9 q9 (OC.out.below ((Below.refl wc.heap.size wc).alloc (Nat.le_refl _) _)) (fun e => absurd e (by decide)) (fun j q hq _ => fun k i hk hk2 => by
          have h1 := LC.out k (slFp_blk hk2)
          obtain ⟨cs, hb⟩ := (Ba.out.ok j q hq).cells hk
          have := hb.lt
          omega)
        rw [HL9.out] at P1
        have P3' : w9.cell? ⟨B, 1, none⟩ = some (.slice (Va 1).A fn (Va 1).c) := by rw [← Ka1.out]; exact P3
        have P4' : w9.frozen? ⟨B, 1, none⟩ = false := P4
        have HPB := Lib.hid (show Pushed B mk 1 ⟨Aw, n, cw, l⟩ va (w9.setCell ⟨B, 1, none⟩ (.slice A9 (fn + 1) c9)) Va Vb from P1)
        clear h9 k9 q9 P1 P3 P4
        refine hK.out _ _ trivial (fun hHeld => ?_)
        clear hK K
        try simp only [Act.put, List.setIfInBounds_toArray, List.set_cons_zero, List.set_cons_succ]
        refine take_on (i := 10) (some 26) (v := ?vr8) rfl rfl (by kernel_rfl) (by kernel_rfl) (by kernel_rfl) (fun _ _ _ h => h) (by rfl) ?hyr8 (by with_reducible exact hHeld) ?restr8
        case hyr8 => (intro wS hSw; (try dsimp only at hSw); go_simp; try with_reducible rfl)
        try simp only [Act.put, List.setIfInBounds_toArray, List.set_cons_zero, List.set_cons_succ]
        refine take_on (i := 11) (some 27) (v := ?vr9) rfl rfl (by kernel_rfl) (by kernel_rfl) (by kernel_rfl) (fun _ _ _ h => h) (by rfl) ?hyr9 (by with_reducible exact hHeld) ?restr9
        case hyr9 => (intro wS hSw; (try dsimp only at hSw); go_simp; try with_reducible rfl)
        try simp only [Act.put, List.setIfInBounds_toArray, List.set_cons_zero, List.set_cons_succ]
        refine wpAnyH_ready (rs := [12]) (by kernel_rfl) (by simp) ?_
        refine AllReadyH.cons rfl (fun K hK => ?_) AllReadyH.nil
        go_simp
        refine hK.out _ _ (trivial) (fun hHeld => ?_)
        clear hK K
        try simp only [Act.put, List.setIfInBounds_toArray, List.set_cons_zero, List.set_cons_succ]
        refine wpAnyH_done (by kernel_rfl) ?_ _
        refine NoPanic.normal ?_
        go_wp2
        go_meet
        exact ⟨Aw, cw, Vb, HPB.out, LC.out⟩
      · refine AllReadyH.cons rfl (fun K hK => ?_) AllReadyH.nil
        refine step_appendG entTy (by decide) encE_len encE_one (by rfl) (.tmp 21) (.tmp 22) (by rfl) (some ⟨va.heap.size, 0, none⟩) 0 [] (by rfl) GE.out A n l (by rw [NL.out]; rfl) RE.out (by rw [NL.out]; simp only [maxLen, List.length_nil]; omega) (by rw [NL.out]; simp only [List.length_nil]; omega) ?_
        intro Aw cw wc h7 k7 q7
        rw [List.nil_append] at h7 ⊢
        rw [NL.out]
        have BC := Lib.hid (show Below va.heap.size va wc from BE.out.trans (k7.below (by simp [World.drew]) fun k i _ hf => by
            obtain ⟨o, _, h3, h4⟩ := hf
            simp at h3 h4
            omega))
        have OC := Lib.hid (show okP wc ⟨Aw, n, cw, l⟩ from ⟨h7, NL.out⟩)
        have LC := Lib.hid (show ∀ k, blkOf Aw k → va.heap.size ≤ k from fun k hk => by
            obtain ⟨a, e, rfl⟩ := hk
            rcases q7 with ⟨e1, _⟩ | ⟨g, e1, hg⟩
            · rw [e1] at e; cases e; exact Nat.le_refl _
            · rw [e1] at e; cases e
              simp [World.drew] at hg
              show va.heap.size ≤ g
              omega)
        have cb2 := CB.out wc BC.out
        have BD := Lib.hid (BC.out.trans (((Below.refl wc.heap.size wc).alloc (Nat.le_refl _) (.cells #[.slice Aw n cw] 27)).mono BC.out.size))
        have cb3 := CB.out _ BD.out
        have GD := Lib.hid (show GSl encP 1 27 (wc.alloc (.cells #[.slice Aw n cw] 27)) (Va 1).A (Va 1).c (Va 1).P from (Ba.out.below BD.out).row 1)
        have RD := Lib.hid (show RdS encP 1 (wc.alloc (.cells #[.slice Aw n cw] 27)) (some ⟨wc.heap.size, 0, none⟩) [(⟨Aw, n, cw, l⟩ : PV)] from RdS.new1 encP 1 wc 27 ⟨Aw, n, cw, l⟩)
        have HL9 := Lib.hid (show ((Va 1).P ++ [(⟨Aw, n, cw, l⟩ : PV)]).length = fn + 1 by rw [List.length_append, Ka1.out]; rfl)
        clear h7 k7 q7
        refine hK.out _ _ trivial (fun hHeld => ?_)
        clear hK K
        try simp only [Act.put, List.setIfInBounds_toArray, List.set_cons_zero, List.set_cons_succ]
        refine wpAnyH_ready (rs := [4, 8]) (by kernel_rfl) (by simp) ?_
        refine AllReadyH.cons rfl (fun K hK => ?_) ?_
        · go_simp
          refine hK.out _ _ trivial (fun hHeld => ?_)
          clear hK K
          try simp only [Act.put, List.setIfInBounds_toArray, List.set_cons_zero, List.set_cons_succ]
          refine wpAnyH_ready (rs := [8]) (by kernel_rfl) (by simp) ?_
          refine AllReadyH.cons rfl (fun K hK => ?_) AllReadyH.nil
          go_simp
          refine hK.out _ _ trivial (fun hHeld => ?_)
          clear hK K
          try simp only [Act.put, List.setIfInBounds_toArray, List.set_cons_zero, List.set_cons_succ]
          refine wpAnyH_ready (rs := [9]) (by kernel_rfl) (by simp) ?_
          refine AllReadyH.cons rfl (fun K hK => ?_) AllReadyH.nil
          refine step_appendG slTy2 (by decide) encP_len encP_one (by rfl) (.tmp 20) (.tmp 24) (by rfl) (Va 1).A (Va 1).c (Va 1).P (by rw [Ka1.out]; rfl) GD.out (some ⟨wc.heap.size, 0, none⟩) 1 [(⟨Aw, n, cw, l⟩ : PV)] (by rfl) RD.out (by rw [Ka1.out]; simp only [maxLen, List.length_singleton]; omega) (by rw [Ka1.out]; simp only [List.length_singleton]; omega) ?_
          intro A9 c9 w9 h9 k9 q9
          rw [HL9.out]
          obtain ⟨Vb, P1, P3, P4⟩ := Ba.out.pushed BD.out 1 h9 k9 q9 (OC.out.below ((Below.refl wc.heap.size wc).alloc (Nat.le_refl _) _)) (fun e => absurd e (by decide)) (fun j q hq _ => fun k i hk hk2 => by
            have h1 := LC.out k (slFp_blk hk2)
            obtain ⟨cs, hb⟩ := (Ba.out.ok j q hq).cells hk
            have := hb.lt
            omega)
          rw [HL9.out] at P1
          have P3' : w9.cell? ⟨B, 1, none⟩ = some (.slice (Va 1).A fn (Va 1).c) := by rw [← Ka1.out]; exact P3
          have P4' : w9.frozen? ⟨B, 1, none⟩ = false := P4
          have HPB := Lib.hid (show Pushed B mk 1 ⟨Aw, n, cw, l⟩ va (w9.setCell ⟨B, 1, none⟩ (.slice A9 (fn + 1) c9)) Va Vb from P1)
          clear h9 k9 q9 P1 P3 P4
          refine hK.out _ _ trivial (fun hHeld => ?_)
          clear hK K
          try simp only [Act.put, List.setIfInBounds_toArray, List.set_cons_zero, List.set_cons_succ]
          refine take_on (i := 10) (some 26) (v := ?vr10) rfl rfl (by kernel_rfl) (by kernel_rfl) (by kernel_rfl) (fun _ _ _ h => h) (by rfl) ?hyr10 (by with_reducible exact hHeld) ?restr10
          case hyr10 => (intro wS hSw; (try dsimp only at hSw); go_simp; try with_reducible rfl)
          try simp only [Act.put, List.setIfInBounds_toArray, List.set_cons_zero, List.set_cons_succ]
          refine take_on (i := 11) (some 27) (v := ?vr11) rfl rfl (by kernel_rfl) (by kernel_rfl) (by kernel_rfl) (fun _ _ _ h => h) (by rfl) ?hyr11 (by with_reducible exact hHeld) ?restr11
          case hyr11 => (intro wS hSw; (try dsimp only at hSw); go_simp; try with_reducible rfl)
          try simp only [Act.put, List.setIfInBounds_toArray, List.set_cons_zero, List.set_cons_succ]
          refine wpAnyH_ready (rs := [12]) (by kernel_rfl) (by simp) ?_
          refine AllReadyH.cons rfl (fun K hK => ?_) AllReadyH.nil
          go_simp
          refine hK.out _ _ (trivial) (fun hHeld => ?_)
          clear hK K
          try simp only [Act.put, List.setIfInBounds_toArray, List.set_cons_zero, List.set_cons_succ]
          refine wpAnyH_done (by kernel_rfl) ?_ _
          refine NoPanic.normal ?_
          go_wp2
          go_meet
          exact ⟨Aw, cw, Vb, HPB.out, LC.out⟩
        · refine AllReadyH.cons rfl (fun K hK => ?_) AllReadyH.nil
          go_simp
          refine hK.out _ _ trivial (fun hHeld => ?_)
          clear hK K
          try simp only [Act.put, List.setIfInBounds_toArray, List.set_cons_zero, List.set_cons_succ]
          refine wpAnyH_ready (rs := [4]) (by kernel_rfl) (by simp) ?_
          refine AllReadyH.cons rfl (fun K hK => ?_) AllReadyH.nil
          go_simp
          refine hK.out _ _ trivial (fun hHeld => ?_)
          clear hK K
          try simp only [Act.put, List.setIfInBounds_toArray, List.set_cons_zero, List.set_cons_succ]
          refine wpAnyH_ready (rs := [9]) (by kernel_rfl) (by simp) ?_
          refine AllReadyH.cons rfl (fun K hK => ?_) AllReadyH.nil
          refine step_appendG slTy2 (by decide) encP_len encP_one (by rfl) (.tmp 20) (.tmp 24) (by rfl) (Va 1).A (Va 1).c (Va 1).P (by rw [Ka1.out]; rfl) GD.out (some ⟨wc.heap.size, 0, none⟩) 1 [(⟨Aw, n, cw, l⟩ : PV)] (by rfl) RD.out (by rw [Ka1.out]; simp only [maxLen, List.length_singleton]; omega) (by rw [Ka1.out]; simp only [List.length_singleton]; omega) ?_
          intro A9 c9 w9 h9 k9 q9
          rw [HL9.out]
          obtain ⟨Vb, P1, P3, P4⟩ := Ba.out.pushed BD.out 1 h9 k9 q9 (OC.out.below ((Below.refl wc.heap.size wc).alloc (Nat.le_refl _) _)) (fun e => absurd e (by decide)) (fun j q hq _ => fun k i hk hk2 => by
            have h1 := LC.out k (slFp_blk hk2)
            obtain ⟨cs, hb⟩ := (Ba.out.ok j q hq).cells hk
            have := hb.lt
            omega)
          rw [HL9.out] at P1
          have P3' : w9.cell? ⟨B, 1, none⟩ = some (.slice (Va 1).A fn (Va 1).c) := by rw [← Ka1.out]; exact P3
          have P4' : w9.frozen? ⟨B, 1, none⟩ = false := P4
          have HPB := Lib.hid (show Pushed B mk 1 ⟨Aw, n, cw, l⟩ va (w9.setCell ⟨B, 1, none⟩ (.slice A9 (fn + 1) c9)) Va Vb from P1)
          clear h9 k9 q9 P1 P3 P4
          refine hK.out _ _ trivial (fun hHeld => ?_)
          clear hK K
          try simp only [Act.put, List.setIfInBounds_toArray, List.set_cons_zero, List.set_cons_succ]
          refine take_on (i := 10) (some 26) (v := ?vr12) rfl rfl (by kernel_rfl) (by kernel_rfl) (by kernel_rfl) (fun _ _ _ h => h) (by rfl) ?hyr12 (by with_reducible exact hHeld) ?restr12
          case hyr12 => (intro wS hSw; (try dsimp only at hSw); go_simp; try with_reducible rfl)
          try simp only [Act.put, List.setIfInBounds_toArray, List.set_cons_zero, List.set_cons_succ]
          refine take_on (i := 11) (some 27) (v := ?vr13) rfl rfl (by kernel_rfl) (by kernel_rfl) (by kernel_rfl) (fun _ _ _ h => h) (by rfl) ?hyr13 (by with_reducible exact hHeld) ?restr13
          case hyr13 => (intro wS hSw; (try dsimp only at hSw); go_simp; try with_reducible rfl)
          try simp only [Act.put, List.setIfInBounds_toArray, List.set_cons_zero, List.set_cons_succ]
          refine wpAnyH_ready (rs := [12]) (by kernel_rfl) (by simp) ?_
          refine AllReadyH.cons rfl (fun K hK => ?_) AllReadyH.nil
          go_simp
          refine hK.out _ _ (trivial) (fun hHeld => ?_)
          clear hK K
          try simp only [Act.put, List.setIfInBounds_toArray, List.set_cons_zero, List.set_cons_succ]
          refine wpAnyH_done (by kernel_rfl) ?_ _
          refine NoPanic.normal ?_
          go_wp2
          go_meet
          exact ⟨Aw, cw, Vb, HPB.out, LC.out⟩
  case rest =>
    obtain ⟨Awb, cwb, Vb, P1, L1⟩ := hcut
    have HPb := Lib.hid P1
    have HLCb := Lib.hid L1
    obtain ⟨vb, hvb⟩ : ∃ u, u = wc := ⟨_, rfl⟩
    subst hvb
    clear cb0 cb1 CB BE GE RE NL P1 L1
    have Bb := Lib.hid HPb.out.bk
    have Ob := Lib.hid (HPb.out.okP Ba.out Oa.out)
    have ea : ∀ j, j ≠ 0 → Va j = V j := HPa.out.oth
    have eb : ∀ j, j ≠ 1 → Vb j = Va j := HPb.out.oth
    have s1 : w.heap.size ≤ va.heap.size := HPa.out.chg.size
    have s2 : va.heap.size ≤ vb.heap.size := HPb.out.chg.size
    have P0 := Lib.hid (show (Vb 0).P = (V 0).P ++ [⟨A, n, n, l⟩] by rw [eb 0 (by decide), HPa.out.self])
    have P1 := Lib.hid (show (Vb 1).P = (V 1).P ++ [⟨Awb, n, cwb, l⟩] by rw [HPb.out.self, ea 1 (by decide)])
    have E2 := Lib.hid (show Vb 2 = V 2 by rw [eb 2 (by decide), ea 2 (by decide)])
    have E3 := Lib.hid (show Vb 3 = V 3 by rw [eb 3 (by decide), ea 3 (by decide)])
    have L01 := Lib.hid (show (Vb 0).P.map PV.l = (Vb 1).P.map PV.l by rw [P0.out, P1.out, List.map_append, List.map_append, H01.out]; rfl)
    have L23 := Lib.hid (show (Vb 2).P.map PV.l = (Vb 3).P.map PV.l by rw [E2.out, E3.out]; exact H23.out)
    have q0 : ∀ k, blkOf (Vb 0).A k → blkOf (V 0).A k ∨ w.heap.size ≤ k := fun k hk => by rw [eb 0 (by decide)] at hk; exact HPa.out.new k hk
    have q1 : ∀ k, blkOf (Vb 1).A k → blkOf (V 1).A k ∨ w.heap.size ≤ k := fun k hk => (HPb.out.new k hk).imp (fun h => by rw [ea 1 (by decide)] at h; exact h) fun h => by omega
    have CB2 := Lib.hid (show Chg (fun k i => BkF V B k i) w vb from (HPa.out.chg.mono fun k j _ h => (by
      rcases h with h | h
      · exact .inl h
      · exact .inr (.inl ⟨0, h⟩) : BkF V B k j)).trans HPb.out.chg fun k j hk h => by
      rcases h with h | h
      · exact .inl h
      · rw [ea 1 (by decide)] at h; exact .inr (.inl ⟨1, h⟩))
    have FB := Lib.hid (show ∀ k i, BkF Vb B k i → BkF V B k i ∨ cellsP ⟨A, n, n, l⟩ k i ∨ w.heap.size ≤ k from fun k i hk => by
      rcases hk with rfl | ⟨f, hf⟩ | ⟨f, p, hp, hc⟩
      · exact .inl (.inl rfl)
      · match f, hf with
        | 0, hf => exact (q0 k hf).elim (fun h => .inl (.inr (.inl ⟨0, h⟩))) fun h => .inr (.inr h)
        | 1, hf => exact (q1 k hf).elim (fun h => .inl (.inr (.inl ⟨1, h⟩))) fun h => .inr (.inr h)
        | 2, hf => rw [E2.out] at hf; exact .inl (.inr (.inl ⟨2, hf⟩))
        | 3, hf => rw [E3.out] at hf; exact .inl (.inr (.inl ⟨3, hf⟩))
      · match f, hp with
        | 0, hp =>
          rw [P0.out] at hp
          rcases List.mem_append.1 hp with hp | hp
          · exact .inl (.inr (.inr ⟨0, p, hp, hc⟩))
          · obtain rfl := List.mem_singleton.1 hp
            exact .inr (.inl hc)
        | 1, hp =>
          rw [P1.out] at hp
          rcases List.mem_append.1 hp with hp | hp
          · exact .inl (.inr (.inr ⟨1, p, hp, hc⟩))
          · obtain rfl := List.mem_singleton.1 hp
            exact .inr (.inr (by have := HLCb.out k (slFp_blk hc); omega))
        | 2, hp => rw [E2.out] at hp; exact .inl (.inr (.inr ⟨2, p, hp, hc⟩))
        | 3, hp => rw [E3.out] at hp; exact .inl (.inr (.inr ⟨3, p, hp, hc⟩)))
    have hfn2 : fn = 0 ∨ fn = 1 := by omega
    rcases hfn2 with rfl | rfl
    · have b0 : vb.cell? ⟨B, 0, none⟩ = some (.slice (Vb 0).A 1 (Vb 0).c) := by
        have := Bb.out.cell 0
        rw [P0.out, List.length_append, HK0.out] at this
        exact this
      clear q0 q1 ea eb
      go_wp2
      refine bodyPost_ret (results_none rfl _ _ _) rfl ?_
      refine ⟨rfl, 1, kn, mk, BkF Vb B, ⟨Vb, Bb.out, L01.out, L23.out, by rw [P0.out, List.length_append, HK0.out]; rfl, by rw [E2.out]; exact HK2.out, (fun p hp => by
        rw [P0.out] at hp
        rcases List.mem_append.1 hp with hp | hp
        · exact HBD.out p hp
        · obtain rfl := List.mem_singleton.1 hp; exact hn), fun _ _ => Iff.rfl⟩, Nat.le_refl _, by omega, Int.le_refl _, by omega, CB2.out.mono fun k i _ h => .inl ((HF.out k i).2 h), fun k i hk => ?_⟩
      rcases FB.out k i hk with h | h | h
      · exact .inl ((HF.out k i).2 h)
      · exact .inr (.inl h)
      · exact .inr (.inr h)
    · have b0 : vb.cell? ⟨B, 0, none⟩ = some (.slice (Vb 0).A 2 (Vb 0).c) := by
        have := Bb.out.cell 0
        rw [P0.out, List.length_append, HK0.out] at this
        exact this
      have HH := Lib.hid (holds_any Bb.out L01.out L23.out)
      clear q0 q1 ea eb
      go_upto_region 3 with (go_at_call 30; refine HH.out.mono ?_; rintro e vh ⟨rfl, kh⟩)
      obtain ⟨q, hq⟩ : ∃ q, (V 0).P = [q] := List.length_eq_one_iff.1 HK0.out
      have P0' : (Vb 0).P = [q, ⟨A, n, n, l⟩] := by rw [P0.out, hq]; rfl
      have Bh := Bb.out.below kh
      obtain ⟨g, o, x, hA, hx, x0, hg⟩ := Bh.at_ 0 (k := 0) (by rw [P0']; simp)
      obtain ⟨g', o', y, hA', hy, x1, _⟩ := Bh.at_ 0 (k := 1) (by rw [P0']; simp)
      rw [hA] at hA'
      cases hA'
      rw [P0'] at hx hy
      cases hx
      cases hy
      have hfull : q.c = q.n := Bh.full q (by rw [P0']; simp)
      have hqn : q.n ≤ 2000 := HBD.out q (by rw [hq]; simp)
      have okq : okP vh q := Bh.ok 0 q (by rw [P0']; simp)
      have okp : okP vh ⟨A, n, n, l⟩ := Bh.ok 0 _ (by rw [P0']; simp)
      have hpw := Bh.frp
      rw [P0'] at hpw
      have hqp : apart q ⟨A, n, n, l⟩ := by
        rw [List.pairwise_cons] at hpw
        exact hpw.1 _ (by simp)
      have b0h : vh.cell? ⟨B, 0, none⟩ = some (.slice (some ⟨g, o, none⟩) 2 (Vb 0).c) := by
        have := Bh.cell 0
        rw [P0', hA] at this
        exact this
      have b1h : vh.cell? ⟨B, 1, none⟩ = some (.slice (Vb 1).A 2 (Vb 1).c) := by
        have := Bh.cell 1
        have hl := congrArg List.length L01.out
        rw [P0'] at hl
        rw [show (Vb 1).P.length = 2 by simpa using hl.symm] at this
        exact this
      have z0 : vh.frozen? ⟨B, 0, none⟩ = false := Bh.blk.frozen 0
      have z1 : vh.frozen? ⟨B, 1, none⟩ = false := Bh.blk.frozen 1
      obtain ⟨V3, hV3⟩ : ∃ V3, V3 = upd (upd Vb 0 RV.nil_) 1 RV.nil_ := ⟨_, rfl⟩
      have w0 : V3 0 = RV.nil_ := by rw [hV3]; rfl
      have w1 : V3 1 = RV.nil_ := by rw [hV3]; rfl
      have w2 : V3 2 = Vb 2 := by rw [hV3]; rfl
      have w3 : V3 3 = Vb 3 := by rw [hV3]; rfl
      have Br : BkR ((vh.setCell ⟨B, 0, none⟩ (.slice none 0 0)).setCell ⟨B, 1, none⟩ (.slice none 0 0)) B mk V3 := by rw [hV3]; exact (Bh.reset 0).reset 1
      have cr : Chg (fun k _ => k = B) vh ((vh.setCell ⟨B, 0, none⟩ (.slice none 0 0)).setCell ⟨B, 1, none⟩ (.slice none 0 0)) := (Chg.setCell (fun k _ => k = B) vh (g := B) (i := 0) rfl _).trans (Chg.setCell (fun k _ => k = B) _ (g := B) (i := 1) rfl _) fun _ _ _ h => h
      have sub3 : ∀ k i, BkF V3 B k i → BkF Vb B k i := fun k i hk => by
        rcases hk with rfl | ⟨f, hf⟩ | ⟨f, p, hp, hc⟩
        · exact .inl rfl
        · match f, hf with
          | 0, hf => rw [w0] at hf; obtain ⟨_, e, _⟩ := hf; cases e
          | 1, hf => rw [w1] at hf; obtain ⟨_, e, _⟩ := hf; cases e
          | 2, hf => rw [w2] at hf; exact .inr (.inl ⟨2, hf⟩)
          | 3, hf => rw [w3] at hf; exact .inr (.inl ⟨3, hf⟩)
        · match f, hp with
          | 0, hp => rw [w0] at hp; cases hp
          | 1, hp => rw [w1] at hp; cases hp
          | 2, hp => rw [w2] at hp; exact .inr (.inr ⟨2, p, hp, hc⟩)
          | 3, hp => rw [w3] at hp; exact .inr (.inr ⟨3, p, hp, hc⟩)
      have dis : ∀ z ∈ (Vb 0).P, ∀ k i, cellsP z k i → ¬ BkF V3 B k i := fun z hz k i hc hk => by
        obtain ⟨cs, hb⟩ := (Bh.ok 0 z hz).cells hc
        rcases hk with rfl | ⟨f, hf⟩ | ⟨f, p, hp, hc2⟩
        · exact blk_type_ne hb Bh.blk (by decide) rfl
        · match f, hf with
          | 0, hf => rw [w0] at hf; obtain ⟨_, e, _⟩ := hf; cases e
          | 1, hf => rw [w1] at hf; obtain ⟨_, e, _⟩ := hf; cases e
          | 2, hf => rw [w2] at hf; obtain ⟨cs2, hb2⟩ := row_blk (Bh.row 2) hf; exact blk_type_ne hb hb2 (by decide) rfl
          | 3, hf => rw [w3] at hf; obtain ⟨cs2, hb2⟩ := row_blk (Bh.row 3) hf; exact blk_type_ne hb hb2 (by decide) rfl
        · match f, hp with
          | 0, hp => rw [w0] at hp; cases hp
          | 1, hp => rw [w1] at hp; cases hp
          | 2, hp => rw [w2] at hp; exact Bh.frs z hz 2 (by decide) p hp k i hc hc2
          | 3, hp => rw [w3] at hp; exact Bh.frs z hz 3 (by decide) p hp k i hc hc2
      obtain ⟨cg, hgb⟩ := row_blk (Bh.row 0) ⟨_, hA, rfl⟩
      have disg : ∀ i, ¬ BkF V3 B g i := fun i hk => by
        rcases hk with rfl | ⟨f, hf⟩ | ⟨f, p, hp, hc2⟩
        · exact blk_type_ne hgb Bh.blk (by decide) rfl
        · match f, hf with
          | 0, hf => rw [w0] at hf; obtain ⟨_, e, _⟩ := hf; cases e
          | 1, hf => rw [w1] at hf; obtain ⟨_, e, _⟩ := hf; cases e
          | 2, hf => rw [w2] at hf; exact Bh.sep 0 2 (by decide) g ⟨_, hA, rfl⟩ hf
          | 3, hf => rw [w3] at hf; exact Bh.sep 0 3 (by decide) g ⟨_, hA, rfl⟩ hf
        · obtain ⟨cs2, hb2⟩ := (Br.ok f p hp).cells hc2
          exact blk_type_ne (cr.blk hgb fun _ e => blk_type_ne hgb Bh.blk (by decide) e) hb2 (by decide) rfl
      have cells_ne : ∀ z, okP vh z → ∀ i, ¬ cellsP z g i := fun z hz i hc => by
        obtain ⟨cs2, hb2⟩ := hz.cells hc
        exact blk_type_ne hgb hb2 (by decide) rfl
      obtain ⟨vr, hvr⟩ : ∃ vr, vr = (vh.setCell ⟨B, 0, none⟩ (.slice none 0 0)).setCell ⟨B, 1, none⟩ (.slice none 0 0) := ⟨_, rfl⟩
      rw [← hvr] at Br cr
      have HVR := Lib.hid hvr.symm
      have hgB : g ≠ B := blk_type_ne hgb Bh.blk (by decide)
      have y0 : vr.cell? ⟨g, o, none⟩ = some (.slice q.A q.n q.n) := by
        rw [Nat.add_zero, hfull] at x0
        exact cr.cell hgB x0
      have y1 : vr.cell? ⟨g, o + 1, none⟩ = some (.slice A n n) := cr.cell hgB x1
      have okq1 : okP vr ⟨q.A, q.n, q.n, q.l⟩ := by
        have h9 := okq.chg cr fun k i hk e => by
          obtain ⟨cs, hb⟩ := okq.cells hk
          exact blk_type_ne hb Bh.blk (by decide) e
        exact ⟨by have := h9.1; rw [hfull] at this; exact this, h9.2⟩
      have okp1 : okP vr ⟨A, n, n, l⟩ := okp.chg cr fun k i hk e => by
        obtain ⟨cs, hb⟩ := okp.cells hk
        exact blk_type_ne hb Bh.blk (by decide) e
      have dq : ∀ k i, cellsP ⟨q.A, q.n, q.n, q.l⟩ k i → ¬ BkF V3 B k i := dis q (by rw [P0']; simp)
      have dp : ∀ k i, cellsP ⟨A, n, n, l⟩ k i → ¬ BkF V3 B k i := dis _ (by rw [P0']; simp)
      have dqp : ∀ k i, cellsP ⟨A, n, n, l⟩ k i → ¬ cellsP ⟨q.A, q.n, q.n, q.l⟩ k i := fun k i h1 h2 => hqp k i h2 h1
      have gq : ∀ i, ¬ cellsP ⟨q.A, q.n, q.n, q.l⟩ g i := cells_ne q okq
      have l3 : (V3 2).P.map PV.l = (V3 3).P.map PV.l := by rw [w2, w3]; exact L23.out
      have k3 : (V3 2).P.length = kn := by rw [w2, E2.out]; exact HK2.out
      have WQ := Lib.hid (write_any B q.n kn mk V3 q.A q.l vr Br (by rw [w0]; rfl) l3 okq1 hqn k3 (by omega) (by omega) dq)
      have hqm : ∀ k i, cellsP ⟨q.A, q.n, q.n, q.l⟩ k i → BkF V B k i := fun k i hk => .inr (.inr ⟨0, q, by rw [hq]; simp, hk⟩)
      have HQM := Lib.hid hqm
      have DP := Lib.hid dp
      have DQP := Lib.hid dqp
      have DG := Lib.hid disg
      have GQ := Lib.hid gq
      have OP1 := Lib.hid okp1
      have W0 := Lib.hid w0
      have W1 := Lib.hid w1
      have SUB := Lib.hid sub3
      have CRW := Lib.hid (show Chg (fun k i => BkF V B k i) w vr from ((CB2.out.trans (Chg.of_below (fun k i => BkF V B k i) kh) fun _ _ _ h => h).trans cr fun k i _ e => .inl e))
      have Y1 := Lib.hid y1
      have hgl : g < vr.heap.size := (cr.blk hgb fun _ e => hgB e).lt
      have FB3 := Lib.hid (show ∀ k i, BkF V3 B k i → BkF V B k i from fun k i hk => by
        rcases hk with rfl | ⟨f, hf⟩ | ⟨f, p, hp, hc⟩
        · exact .inl rfl
        · match f, hf with
          | 0, hf => rw [w0] at hf; obtain ⟨_, e, _⟩ := hf; cases e
          | 1, hf => rw [w1] at hf; obtain ⟨_, e, _⟩ := hf; cases e
          | 2, hf => rw [w2, E2.out] at hf; exact .inr (.inl ⟨2, hf⟩)
          | 3, hf => rw [w3, E3.out] at hf; exact .inr (.inl ⟨3, hf⟩)
        · match f, hp with
          | 0, hp => rw [w0] at hp; cases hp
          | 1, hp => rw [w1] at hp; cases hp
          | 2, hp => rw [w2, E2.out] at hp; exact .inr (.inr ⟨2, p, hp, hc⟩)
          | 3, hp => rw [w3, E3.out] at hp; exact .inr (.inr ⟨3, p, hp, hc⟩))
      have VRL := Lib.hid (fun k i (hk : BkF V3 B k i) => Br.fp_lt hk)
      have PLT := Lib.hid (fun k i (hk : cellsP ⟨A, n, n, l⟩ k i) => (by obtain ⟨cs, hb⟩ := okp1.cells hk; exact hb.lt : k < vr.heap.size))
      have hs0 : w.heap.size ≤ vr.heap.size := CRW.out.size
      have FINQ := Lib.hid (show ∀ (wr w5 : World) (V4 V5 : Fin 4 → RV), Chg (fun k i => BkF V3 B k i ∨ cellsP ⟨q.A, q.n, q.n, q.l⟩ k i) vr wr → (∀ k i, BkF V4 B k i → BkF V3 B k i ∨ cellsP ⟨q.A, q.n, q.n, q.l⟩ k i ∨ vr.heap.size ≤ k) → V4 0 = V3 0 → V4 1 = V3 1 → BkR w5 B (mk + 1 + 1) V5 → V5 0 = V4 0 → V5 1 = V4 1 → (V5 2).P.map PV.l = (V5 3).P.map PV.l → (V5 2).P.length = kn + 2 + 2 →
          Chg (fun k i => BkF V4 B k i ∨ cellsP ⟨A, n, n, l⟩ k i) wr w5 → (∀ k i, BkF V5 B k i → BkF V4 B k i ∨ cellsP ⟨A, n, n, l⟩ k i ∨ wr.heap.size ≤ k) →
          ∃ V5 : Fin 4 → RV, BkR w5 B (mk + 2) V5 ∧ V5 0 = V3 0 ∧ V5 1 = V3 1 ∧ (V5 2).P.map PV.l = (V5 3).P.map PV.l ∧ (V5 2).P.length = kn + 4 ∧ Chg (fun k i => BkF V B k i ∨ cellsP ⟨A, n, n, l⟩ k i) vr w5 ∧ (∀ k i, BkF V5 B k i → BkF V B k i ∨ cellsP ⟨A, n, n, l⟩ k i ∨ w.heap.size ≤ k) from fun wr w5 V4 V5 c1 f1 a1 a2 r1 r2 r3 r4 r5 r6 r7 => by
        have hs2 : vr.heap.size ≤ wr.heap.size := c1.size
        refine ⟨V5, by rw [show mk + 1 + 1 = mk + 2 by omega] at r1; exact r1, r2.trans a1, r3.trans a2, r4, r5, ?_, fun k i hk => ?_⟩
        · exact (c1.mono fun k i _ h => h.elim (fun h => .inl (FB3.out k i h)) fun h => .inl (HQM.out k i h)).trans r6 fun k i hk h => by
            rcases h with h | h
            · rcases f1 k i h with h | h | h
              · exact .inl (FB3.out k i h)
              · exact .inl (HQM.out k i h)
              · omega
            · exact .inr h
        · rcases r7 k i hk with h | h | h
          · rcases f1 k i h with h | h | h
            · exact .inl (FB3.out k i h)
            · exact .inl (HQM.out k i h)
            · exact .inr (.inr (by omega))
          · exact .inr (.inl h)
          · exact .inr (.inr (by omega)))
      clear hq P0' Bh hA x0 hg hfull okq okp hpw hqp hV3 w0 w1 w2 w3 Br cr sub3 dis hgb disg cells_ne hvr okq1 okp1 dq dp dqp gq l3 k3 hqm x1 b0 HH
      go_wp2_with fail
      rw [HVR.out]
      go_loopw [5] (fun t5 wr => ∃ z : Int, (z = 0 ∨ z = 1 ∨ z = 2) ∧ t5 = .int .i64 z ∧ Hid (z = 0 → wr = vr) ∧
          Hid (z = 1 → ∃ V4 : Fin 4 → RV, BkR wr B (mk + 1) V4 ∧ V4 0 = V3 0 ∧ V4 1 = V3 1 ∧ (V4 2).P.map PV.l = (V4 3).P.map PV.l ∧ (V4 2).P.length = kn + 2 ∧ Chg (fun k i => BkF V3 B k i ∨ cellsP ⟨q.A, q.n, q.n, q.l⟩ k i) vr wr ∧ (∀ k i, BkF V4 B k i → BkF V3 B k i ∨ cellsP ⟨q.A, q.n, q.n, q.l⟩ k i ∨ vr.heap.size ≤ k)) ∧
          Hid (z = 2 → ∃ V5 : Fin 4 → RV, BkR wr B (mk + 2) V5 ∧ V5 0 = V3 0 ∧ V5 1 = V3 1 ∧ (V5 2).P.map PV.l = (V5 3).P.map PV.l ∧ (V5 2).P.length = kn + 4 ∧ Chg (fun k i => BkF V B k i ∨ cellsP ⟨A, n, n, l⟩ k i) vr wr ∧ (∀ k i, BkF V5 B k i → BkF V B k i ∨ cellsP ⟨A, n, n, l⟩ k i ∨ w.heap.size ≤ k))) (fun t5 _ => 2 - (intOf t5).toNat)
      case atStart => exact ⟨0, .inl rfl, rfl, Lib.hid fun _ => rfl, Lib.hid fun e => absurd e (by decide), Lib.hid fun e => absurd e (by decide)⟩
      case round =>
        obtain ⟨z, hz, rfl, S0, S1, S2⟩ := hrel
        rcases hz with rfl | rfl | rfl
        · obtain rfl : wr = vr := S0.out rfl
          clear S0 S1 S2
          go_wp2_with (go_at_call 49; refine WQ.out.mono ?_; rintro e w4 ⟨rfl, V4, r1, r2, r3, r4, r5, r6, r7⟩; have R := Lib.hid (show ∃ V4 : Fin 4 → RV, BkR w4 B (mk + 1) V4 ∧ V4 0 = V3 0 ∧ V4 1 = V3 1 ∧ (V4 2).P.map PV.l = (V4 3).P.map PV.l ∧ (V4 2).P.length = kn + 2 ∧ Chg (fun k i => BkF V3 B k i ∨ cellsP ⟨q.A, q.n, q.n, q.l⟩ k i) wr w4 ∧ (∀ k i, BkF V4 B k i → BkF V3 B k i ∨ cellsP ⟨q.A, q.n, q.n, q.l⟩ k i ∨ wr.heap.size ≤ k) from ⟨V4, r1, r2, r3, r4, r5, r6, r7⟩); clear r1 r2 r3 r4 r5 r6 r7)
          go_roundw
          case rel => exact ⟨1, .inr (.inl rfl), by go_num, Lib.hid fun e => absurd e (by decide), Lib.hid fun _ => R.out, Lib.hid fun e => absurd e (by decide)⟩
          case measure => simp [intOf]
        · obtain ⟨V4, r1, r2, r3, r4, r5, r6, r7⟩ := S1.out rfl
          clear S0 S1 S2 y0
          have y1 : wr.cell? ⟨g, o + 1, none⟩ = some (.slice A n n) := r6.cell (fun h => h.elim (DG.out _) (GQ.out _)) Y1.out
          have okp := OP1.out.chg r6 fun k i hk h => h.elim (DP.out k i hk) (DQP.out k i hk)
          have dp4 : ∀ k i, cellsP ⟨A, n, n, l⟩ k i → ¬ BkF V4 B k i := fun k i hk hb => by
            rcases r7 k i hb with h | h | h
            · exact DP.out k i hk h
            · exact DQP.out k i hk h
            · have := PLT.out k i hk; omega
          have WP := Lib.hid (write_any B n (kn + 2) (mk + 1) V4 A l wr r1 (by rw [r2, W0.out]; rfl) r4 okp hn r5 (by omega) (by omega) dp4)
          have R1 := Lib.hid r6
          have R2 := Lib.hid r7
          have R3 := Lib.hid r2
          have R4 := Lib.hid r3
          have hs1 : w.heap.size ≤ vr.heap.size := CRW.out.size
          have hs2 : vr.heap.size ≤ wr.heap.size := r6.size
          clear r1 r2 r3 r4 r5 r6 r7 okp dp4
          go_wp2_with (go_at_call 49; refine WP.out.mono ?_; rintro e w5 ⟨rfl, V5, r1, r2, r3, r4, r5, r6, r7⟩; have R := Lib.hid (show ∃ V5 : Fin 4 → RV, BkR w5 B (mk + 2) V5 ∧ V5 0 = V3 0 ∧ V5 1 = V3 1 ∧ (V5 2).P.map PV.l = (V5 3).P.map PV.l ∧ (V5 2).P.length = kn + 4 ∧ Chg (fun k i => BkF V B k i ∨ cellsP ⟨A, n, n, l⟩ k i) vr w5 ∧ (∀ k i, BkF V5 B k i → BkF V B k i ∨ cellsP ⟨A, n, n, l⟩ k i ∨ w.heap.size ≤ k) from FINQ.out wr w5 V4 V5 R1.out R2.out R3.out R4.out r1 r2 r3 r4 r5 r6 r7); clear r1 r2 r3 r4 r5 r6 r7)
          go_roundw
          case rel => exact ⟨2, .inr (.inr rfl), by go_num, Lib.hid fun e => absurd e (by decide), Lib.hid fun e => absurd e (by decide), Lib.hid fun _ => R.out⟩
          case measure => simp [intOf]
        · obtain ⟨V5, r1, r2, r3, r4, r5, r6, r7⟩ := S2.out rfl
          have R := Lib.hid (show ∃ (fn' kn' : Nat) (mk' : Int) (F' : Nat → Nat → Prop), BkAt wr B fn' kn' mk' F' ∧ fn' ≤ 1 ∧ kn' ≤ kn + 4 ∧ mk ≤ mk' ∧ mk' ≤ mk + 2 ∧ Chg (fun k i => F k i ∨ cellsP ⟨A, n, n, l⟩ k i) w wr ∧ (∀ k i, F' k i → F k i ∨ cellsP ⟨A, n, n, l⟩ k i ∨ w.heap.size ≤ k) from by
            have e0 : (V5 0).P = [] := by rw [r2, W0.out]; rfl
            have e1 : (V5 1).P = [] := by rw [r3, W1.out]; rfl
            refine ⟨0, kn + 4, mk + 2, BkF V5 B, ⟨V5, r1, by rw [e0, e1], r4, by rw [e0]; rfl, r5, (fun p hp => by rw [e0] at hp; cases hp), fun _ _ => Iff.rfl⟩, by omega, Nat.le_refl _, by omega, Int.le_refl _, ?_, fun k i hk => ?_⟩
            · exact (CRW.out.mono fun k i _ h => .inl ((HF.out k i).2 h)).trans r6 fun k i _ h => h.imp (HF.out k i).2 id
            · exact (r7 k i hk).imp (HF.out k i).2 id)
          clear r1 r2 r3 r4 r5 r6 r7 S0 S1 S2
          go_wp2
          go_end0
          exact ⟨rfl, R.out⟩
end Go.Proofs.Ytagkhhoimgighaa
