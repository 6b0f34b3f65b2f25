/- Package replicalaw09: sound, by contract. -/
import Derived.Test.YtkjbjfjgnponfaaLkHO
namespace Go.Proofs.Ytkjbjfjgnponfaa
open Go.RowKit
set_option linter.unusedSimpArgs false
set_option linter.unusedVariables false
/-- a table behind some calls: what turned, and where it lies -/
structure TabR (base : Nat) (w wr : World) (T E n : Nat) (most : Int) (V : Nat → Value) (wait : Int) (V' : Nat → Value) (L : Nat → List Pl) : Prop where
  tab : TabS base wr T E n 0 most wait V' L
  chg : Chg (fun k _ => Fp T E n V k) w wr
  fp : ∀ k, Fp T E n V' k → Fp T E n V k ∨ w.heap.size ≤ k
section
variable {base T E n : Nat} {w wr wx : World} {most wait wait2 : Int} {V V' V2 : Nat → Value} {L L2 : Nat → List Pl}
theorem TabR.refl (h : TabS base w T E n 0 most wait V L) : TabR base w w T E n most V wait V L := ⟨h, Chg.refl _ _, fun _ h => .inl h⟩
theorem TabR.step (h : TabR base w wr T E n most V wait V' L) (hT : TabS base wx T E n 0 most wait2 V2 L2) (hC : Chg (fun k _ => Fp T E n V' k) wr wx) (hF : ∀ k, Fp T E n V2 k → Fp T E n V' k ∨ wr.heap.size ≤ k) : TabR base w wx T E n most V wait2 V2 L2 :=
  ⟨hT, h.chg.trans hC fun k i hk hf => (h.fp k hf).elim id fun h2 => absurd hk (Nat.not_lt.2 h2), fun k hk => (hF k hk).elim (h.fp k) fun h2 => .inr (Nat.le_trans h.chg.size h2)⟩
theorem TabR.below (h : TabR base w wr T E n most V wait V' L) (hB : Below wr.heap.size wr wx) : TabR base w wx T E n most V wait V' L :=
  ⟨h.tab.below hB, h.chg.trans (Chg.of_below (fun _ _ => False) hB) (fun _ _ _ h => h.elim), h.fp⟩
end
theorem not_take {l : List Int} (h : l.Nodup) {i : Nat} {x : Int} (hx : l[i]? = some x) : x ∉ l.take i := fun hm => by
  have h1 : (l.take (i + 1)).Nodup := h.sublist (List.take_sublist ..)
  rw [List.take_add_one, hx] at h1
  exact (List.nodup_append.1 h1).2.2 x hm x (by simp) rfl
set_option maxRecDepth 20000 in
set_option maxHeartbeats 16000000 in
theorem sound_any (base T E n x : Nat) (most : Int) (V : Nat → Value) (wait : Int) (L : Nat → List Pl) (w : World) (h : TabS base w T E n 0 most wait V L) (hxn : x < n) (hn : n ≤ 4096) (hb : ∀ i, i < 2 * n → (L i).length ≤ 4000000000000) (hw : 0 ≤ wait ∧ wait ≤ 1000000) (hE : Ext (L (x * 2)) (L (x * 2 + 1))) :
    Calls Try.prog 29 #[.pointer (some ⟨T, 0, none⟩), .int .i64 (x : Int)] w fun e w' => e = .returned (.tuple #[.int .i64 ((L (x * 2 + 1)).length : Int), .bool true]) ∧ ∃ V', TabR base w w' T E n most V wait V' L := by
  have R0 := Lib.hid (TabR.refl h)
  have HB := Lib.hid hb
  obtain ⟨ho, hho⟩ : ∃ v, v = (L (x * 2)).map (·.1) := ⟨_, rfl⟩
  obtain ⟨wt, hwt⟩ : ∃ v, v = (L (x * 2 + 1)).map (·.1) := ⟨_, rfl⟩
  obtain ⟨md, hmd⟩ : ∃ v, v = modeOf (L (x * 2)) 0 := ⟨_, rfl⟩
  have lB0 : listT n L (x : Int) 0 = (ho, md, 0) := by
    unfold listT
    rw [if_neg (show ¬ ¬ (0 ≤ (x : Int) ∧ (x : Int) < (n : Int)) by omega), if_neg (by decide), Int.toNat_natCast, hho, hmd]
  have lB1 : listT n L (x : Int) 1 = (wt, 1, 0) := by
    unfold listT
    rw [if_neg (show ¬ ¬ (0 ≤ (x : Int) ∧ (x : Int) < (n : Int)) by omega), if_pos rfl, Int.toNat_natCast, hwt]
  obtain ⟨hl, hhl⟩ : ∃ v, v = ho.length := ⟨_, rfl⟩
  obtain ⟨wl, hwl⟩ : ∃ v, v = wt.length := ⟨_, rfl⟩
  have hlm : hl ≤ 4000000000000 := by rw [hhl, hho, List.length_map]; exact hb _ (by omega)
  have wlm : wl ≤ 4000000000000 := by rw [hwl, hwt, List.length_map]; exact hb _ (by omega)
  have hwl2 : (L (x * 2 + 1)).length = wl := by rw [hwl, hwt, List.length_map]
  have hcases : (hl = 0 ∧ md = 0 ∧ wl = 0) ∨ (0 < hl ∧ md = 1) ∨ (hl = 1 ∧ md = 2) := by
    cases hh : L (x * 2) with
    | nil =>
      left
      refine ⟨by rw [hhl, hho, hh]; rfl, by rw [hmd, hh]; rfl, ?_⟩
      cases hr : L (x * 2 + 1) with
      | nil => rw [← hwl2, hr]; rfl
      | cons a t => exact absurd hh (hE.hne (by rw [hr]; simp))
    | cons a t =>
      right
      rcases hE.sh with h1 | ⟨p, h1, h2⟩
      · exact .inl ⟨by rw [hhl, hho, hh]; simp, by rw [hmd, hh]; exact h1 a (by rw [hh]; simp)⟩
      · exact .inr ⟨by rw [hhl, hho, h1]; rfl, by rw [hmd, h1]; exact h2⟩
  have hnd : ho.Nodup ∧ wt.Nodup ∧ ∀ y, y ∈ ho → y ∉ wt := by
    have := hE.nod
    rw [List.map_append, List.nodup_append, ← hho, ← hwt] at this
    exact ⟨this.1, this.2.1, fun y h1 h2 => this.2.2 y h1 y h2 rfl⟩
  have hold : ∀ y, holdsT n L (x : Int) y = decide (y ∈ ho) := fun y => by
    unfold holdsT
    rw [if_neg (show ¬ ¬ (0 ≤ (x : Int) ∧ (x : Int) < (n : Int)) by omega), Int.toNat_natCast, hho]
    exact decide_eq_decide.2 findI_mem
  have LB0 := Lib.hid lB0
  have LB1 := Lib.hid lB1
  have HHL := Lib.hid hhl
  have HWL := Lib.hid hwl
  have HW2 := Lib.hid hwl2
  have HCS := Lib.hid hcases
  have HND := Lib.hid hnd
  have HOLD := Lib.hid hold
  clear lB0 lB1 hho hwt hmd hhl hwl hwl2 hcases hnd hold hE hb
  have gl := holdersO_any base T E n most (x : Int) V wait L w h hn HB.out hw
  rw [LB0.out] at gl
  rw [show (ho, md, (0 : Int)).1.length = hl from HHL.out.symm] at gl
  have GL := Lib.hid gl
  clear gl h
  go_enter Try.func29, Try.ntmps29
  go_wp2_with fail
  refine GL.out.mono ?_
  rintro e wA ⟨A1, c1, rfl, r1, b1, V7, hT, hC, hF⟩
  have RA := Lib.hid (R0.out.step hT hC hF)
  have K1 := Lib.hid r1
  clear GL hT hC hF r1 b1 R0
  have gl := waitersO_any base T E n most (x : Int) V7 wait L wA RA.out.tab hn HB.out hw
  rw [LB1.out] at gl
  rw [show (wt, (1 : Int), (0 : Int)).1.length = wl from HWL.out.symm] at gl
  have GL := Lib.hid gl
  clear gl
  go_wp2_with fail
  refine GL.out.mono ?_
  rintro e wB ⟨A2, c2, rfl, r2, b2, V8, hT, hC, hF⟩
  have RB := Lib.hid (RA.out.step hT hC hF)
  have K1b := Lib.hid (K1.out.keep RA.out.tab hC)
  have K2 := Lib.hid r2
  clear GL hT hC hF r2 b2 RA K1 LB0 LB1
  go_upto_region 5 with (go_at_call 18; (with_reducible refine (num_any _ _).mono ?_); rintro e w' ⟨rfl, rfl⟩)
  go_cut [70] (fun t70 wx => t70 = .bool false ∧ wB = wx)
  case first =>
    rcases HCS.out with ⟨e1, e2, e3⟩ | ⟨e1, e2⟩ | ⟨e1, e2⟩
    · subst e1
      subst e2
      subst e3
      go_wp2
      go_meet
      exact ⟨rfl, rfl⟩
    · subst e2
      have hz : ((hl : Int) == 0) = false := by rw [beq_eq_false_iff_ne]; omega
      have hz2 : hl ≠ 0 := by omega
      go_wp2
      go_meet
      exact ⟨rfl, rfl⟩
    · subst e1
      subst e2
      go_wp2
      go_meet
      exact ⟨rfl, rfl⟩
  case rest =>
    obtain ⟨rfl, rfl⟩ := hcut
    go_wp2_with fail
    go_loopw [11] (fun t11 wr => ∃ (i : Nat) (V' : Nat → Value), i ≤ hl ∧ t11 = .int .i64 (i : Int) ∧ Hid (TabR base w wr T E n most V wait V' L) ∧ Hid (KO wr A1 c1 ho) ∧ Hid (KO wr A2 c2 wt)) (fun t11 _ => hl - (intOf t11).toNat)
    case atStart => exact ⟨0, V8, Nat.zero_le _, rfl, RB, K1b, K2⟩
    case round =>
      clear RB K1b K2
      obtain ⟨i, V', hi, rfl, RB, K1, K2⟩ := hrel
      by_cases hlt : i < hl
      · have hlt' : (i : Int) < (hl : Int) := by omega
        obtain ⟨ad, y, hA, hy, hc⟩ := K1.out.kept.1.at_ (show i < ho.length by rw [← HHL.out]; exact hlt)
        subst hA
        have HY := Lib.hid hy
        have hin : y ∈ ho := List.mem_of_getElem? hy
        have hc2 : wr.drew.cell? (ad.add i) = some (.int .i64 y) := hc
        have g1 := has_any A2 c2 wl wt y wr.drew HWL.out.symm (by omega) K2.out.kept.1
        rw [decide_eq_false (HND.out.2.2 y hin)] at g1
        have hti : (ho.take i).length = i := by rw [List.length_take, ← HHL.out]; omega
        have g2 := has_any (some ad) c1 i (ho.take i) y wr.drew hti (by omega) (K1.out.kept.1.take i)
        rw [decide_eq_false (not_take HND.out.1 hy)] at g2
        have R2 := RB.out.below (Below.refl _ _).drew
        have g3 := holdsM_any base T E n most (x : Int) y V' wait L wr.drew R2.tab hn HB.out
        rw [HOLD.out y, decide_eq_true hin] at g3
        have G1 := Lib.hid g1
        have G2 := Lib.hid g2
        have G3 := Lib.hid g3
        have RR := Lib.hid R2
        have K1d := Lib.hid (K1.out.below (Below.refl _ _).drew)
        have K2d := Lib.hid (K2.out.below (Below.refl _ _).drew)
        have HC2 := Lib.hid hc2
        have hic : i ≤ c1 := by have := K1.out.le; rw [← HHL.out] at this; omega
        clear hc hy hin g1 g2 g3 R2 hc2 hti
        go_wp2_with fail
        refine wp_region_noPanic ?_
        refine wp_region_held_drew (S := fun w' => w'.cell? (ad.add i) = some (.int .i64 y)) (by kernel_rfl) (HC2.out) (fun hHeld => ?_)
        refine take_on (i := 0) (some 77) (v := ?vr1) rfl rfl (by kernel_rfl) (by kernel_rfl) (by kernel_rfl) (fun _ _ _ h => h) (by rfl) ?hyr1 (by with_reducible exact hHeld) ?restr1
        case hyr1 => (intro wS hSw; (try dsimp only at hSw); go_simp; try with_reducible rfl)
        try simp only [Act.put, List.setIfInBounds_toArray, List.set_cons_zero, List.set_cons_succ]
        refine take_on (i := 1) (some 78) (v := ?vr2) rfl rfl (by kernel_rfl) (by kernel_rfl) (by kernel_rfl) (fun _ _ _ h => h) (by rfl) ?hyr2 (by with_reducible exact hHeld) ?restr2
        case hyr2 => (intro wS hSw; (try dsimp only at hSw); go_simp; try with_reducible rfl)
        try simp only [Act.put, List.setIfInBounds_toArray, List.set_cons_zero, List.set_cons_succ]
        refine take_on (i := 2) (some 79) (v := ?vr3) rfl rfl (by kernel_rfl) (by kernel_rfl) (by kernel_rfl) (fun _ _ _ h => h) (by rfl) ?hyr3 (by with_reducible exact hHeld) ?restr3
        case hyr3 => (intro wS hSw; (try dsimp only at hSw); go_simp; try with_reducible rfl)
        try simp only [Act.put, List.setIfInBounds_toArray, List.set_cons_zero, List.set_cons_succ]
        refine take_on (i := 3) (some 80) (v := ?vr4) rfl rfl (by kernel_rfl) (by kernel_rfl) (by kernel_rfl) (fun _ _ _ h => h) (by rfl) ?hyr4 (by with_reducible exact hHeld) ?restr4
        case hyr4 => (intro wS hSw; (try dsimp only at hSw); go_simp; try with_reducible rfl)
        try simp only [Act.put, List.setIfInBounds_toArray, List.set_cons_zero, List.set_cons_succ]
        refine take_on (i := 4) (some 81) (v := ?vr5) rfl rfl (by kernel_rfl) (by kernel_rfl) (by kernel_rfl) (fun _ _ _ h => h) (by rfl) ?hyr5 (by with_reducible exact hHeld) ?restr5
        case hyr5 => (intro wS hSw; (try dsimp only at hSw); go_simp; try with_reducible rfl)
        try simp only [Act.put, List.setIfInBounds_toArray, List.set_cons_zero, List.set_cons_succ]
        refine wpAnyH_ready (rs := [5]) (by kernel_rfl) (by simp) ?_
        refine AllReadyH.cons rfl (fun K hK => ?_) AllReadyH.nil
        go_simp
        with_reducible refine G1.out.mono ?_
        rintro e wq ⟨rfl, rfl⟩
        clear G1
        refine hK.out _ _ (HC2.out) (fun hHeld => ?_)
        clear hK K
        try simp only [Act.put, List.setIfInBounds_toArray, List.set_cons_zero, List.set_cons_succ]
        refine take_on (i := 6) (some 83) (v := ?vr6) rfl rfl (by kernel_rfl) (by kernel_rfl) (by kernel_rfl) (fun _ _ _ h => h) (by rfl) ?hyr6 (by with_reducible exact hHeld) ?restr6
        case hyr6 => (intro wS hSw; (try dsimp only at hSw); go_simp; try with_reducible rfl)
        try simp only [Act.put, List.setIfInBounds_toArray, List.set_cons_zero, List.set_cons_succ]
        refine take_on (i := 7) (some 84) (v := ?vr7) rfl rfl (by kernel_rfl) (by kernel_rfl) (by kernel_rfl) (fun _ _ _ h => h) (by rfl) ?hyr7 (by with_reducible exact hHeld) ?restr7
        case hyr7 => (intro wS hSw; (try dsimp only at hSw); go_simp; try with_reducible rfl)
        try simp only [Act.put, List.setIfInBounds_toArray, List.set_cons_zero, List.set_cons_succ]
        refine take_on (i := 8) (some 85) (v := ?vr8) rfl rfl (by kernel_rfl) (by kernel_rfl) (by kernel_rfl) (fun _ _ _ h => h) (by rfl) ?hyr8 (by with_reducible exact hHeld) ?restr8
        case hyr8 => (intro wS hSw; (try dsimp only at hSw); go_simp; try with_reducible rfl)
        try simp only [Act.put, List.setIfInBounds_toArray, List.set_cons_zero, List.set_cons_succ]
        refine take_on (i := 9) (some 86) (v := ?vr9) rfl rfl (by kernel_rfl) (by kernel_rfl) (by kernel_rfl) (fun _ _ _ h => h) (by rfl) ?hyr9 (by with_reducible exact hHeld) ?restr9
        case hyr9 => (intro wS hSw; (try dsimp only at hSw); go_simp; try with_reducible rfl)
        try simp only [Act.put, List.setIfInBounds_toArray, List.set_cons_zero, List.set_cons_succ]
        refine take_on (i := 10) (some 87) (v := ?vr10) rfl rfl (by kernel_rfl) (by kernel_rfl) (by kernel_rfl) (fun _ _ _ h => h) (by rfl) ?hyr10 (by with_reducible exact hHeld) ?restr10
        case hyr10 => (intro wS hSw; (try dsimp only at hSw); go_simp; try with_reducible rfl)
        try simp only [Act.put, List.setIfInBounds_toArray, List.set_cons_zero, List.set_cons_succ]
        refine take_on (i := 11) (some 88) (v := ?vr11) rfl rfl (by kernel_rfl) (by kernel_rfl) (by kernel_rfl) (fun _ _ _ h => h) (by rfl) ?hyr11 (by with_reducible exact hHeld) ?restr11
        case hyr11 => (intro wS hSw; (try dsimp only at hSw); go_simp; try with_reducible rfl)
        try simp only [Act.put, List.setIfInBounds_toArray, List.set_cons_zero, List.set_cons_succ]
        refine take_on (i := 12) (some 89) (v := ?vr12) rfl rfl (by kernel_rfl) (by kernel_rfl) (by kernel_rfl) (fun _ _ _ h => h) (by rfl) ?hyr12 (by with_reducible exact hHeld) ?restr12
        case hyr12 => (intro wS hSw; (try dsimp only at hSw); go_simp; try with_reducible rfl)
        try simp only [Act.put, List.setIfInBounds_toArray, List.set_cons_zero, List.set_cons_succ]
        refine take_on (i := 13) (some 90) (v := ?vr13) rfl rfl (by kernel_rfl) (by kernel_rfl) (by kernel_rfl) (fun _ _ _ h => h) (by rfl) ?hyr13 (by with_reducible exact hHeld) ?restr13
        case hyr13 => (intro wS hSw; (try dsimp only at hSw); go_simp; try with_reducible rfl)
        try simp only [Act.put, List.setIfInBounds_toArray, List.set_cons_zero, List.set_cons_succ]
        refine wpAnyH_ready (rs := [14]) (by kernel_rfl) (by simp) ?_
        refine AllReadyH.cons rfl (fun K hK => ?_) AllReadyH.nil
        go_simp
        with_reducible refine G2.out.mono ?_
        rintro e wq ⟨rfl, rfl⟩
        clear G2
        refine hK.out _ _ (HC2.out) (fun hHeld => ?_)
        clear hK K
        try simp only [Act.put, List.setIfInBounds_toArray, List.set_cons_zero, List.set_cons_succ]
        refine take_on (i := 15) (some 92) (v := ?vr14) rfl rfl (by kernel_rfl) (by kernel_rfl) (by kernel_rfl) (fun _ _ _ h => h) (by rfl) ?hyr14 (by with_reducible exact hHeld) ?restr14
        case hyr14 => (intro wS hSw; (try dsimp only at hSw); go_simp; try with_reducible rfl)
        try simp only [Act.put, List.setIfInBounds_toArray, List.set_cons_zero, List.set_cons_succ]
        refine take_on (i := 16) (some 93) (v := ?vr15) rfl rfl (by kernel_rfl) (by kernel_rfl) (by kernel_rfl) (fun _ _ _ h => h) (by rfl) ?hyr15 (by with_reducible exact hHeld) ?restr15
        case hyr15 => (intro wS hSw; (try dsimp only at hSw); go_simp; try with_reducible rfl)
        try simp only [Act.put, List.setIfInBounds_toArray, List.set_cons_zero, List.set_cons_succ]
        refine take_on (i := 17) (some 94) (v := ?vr16) rfl rfl (by kernel_rfl) (by kernel_rfl) (by kernel_rfl) (fun _ _ _ h => h) (by rfl) ?hyr16 (by with_reducible exact hHeld) ?restr16
        case hyr16 => (intro wS hSw; (try dsimp only at hSw); go_simp; try with_reducible rfl)
        try simp only [Act.put, List.setIfInBounds_toArray, List.set_cons_zero, List.set_cons_succ]
        refine take_on (i := 18) (some 95) (v := ?vr17) rfl rfl (by kernel_rfl) (by kernel_rfl) (by kernel_rfl) (fun _ _ _ h => h) (by rfl) ?hyr17 (by with_reducible exact hHeld) ?restr17
        case hyr17 => (intro wS hSw; (try dsimp only at hSw); go_simp; try with_reducible rfl)
        try simp only [Act.put, List.setIfInBounds_toArray, List.set_cons_zero, List.set_cons_succ]
        refine take_on (i := 19) (some 96) (v := ?vr18) rfl rfl (by kernel_rfl) (by kernel_rfl) (by kernel_rfl) (fun _ _ _ h => h) (by rfl) ?hyr18 (by with_reducible exact hHeld) ?restr18
        case hyr18 => (intro wS hSw; (try dsimp only at hSw); go_simp; try with_reducible rfl)
        try simp only [Act.put, List.setIfInBounds_toArray, List.set_cons_zero, List.set_cons_succ]
        refine take_on (i := 20) (some 97) (v := ?vr19) rfl rfl (by kernel_rfl) (by kernel_rfl) (by kernel_rfl) (fun _ _ _ h => h) (by rfl) ?hyr19 (by with_reducible exact hHeld) ?restr19
        case hyr19 => (intro wS hSw; (try dsimp only at hSw); go_simp; try with_reducible rfl)
        try simp only [Act.put, List.setIfInBounds_toArray, List.set_cons_zero, List.set_cons_succ]
        refine take_on (i := 21) (some 98) (v := ?vr20) rfl rfl (by kernel_rfl) (by kernel_rfl) (by kernel_rfl) (fun _ _ _ h => h) (by rfl) ?hyr20 (by with_reducible exact hHeld) ?restr20
        case hyr20 => (intro wS hSw; (try dsimp only at hSw); go_simp; try with_reducible rfl)
        try simp only [Act.put, List.setIfInBounds_toArray, List.set_cons_zero, List.set_cons_succ]
        refine take_on (i := 22) (some 99) (v := ?vr21) rfl rfl (by kernel_rfl) (by kernel_rfl) (by kernel_rfl) (fun _ _ _ h => h) (by rfl) ?hyr21 (by with_reducible exact hHeld) ?restr21
        case hyr21 => (intro wS hSw; (try dsimp only at hSw); go_simp; try with_reducible rfl)
        try simp only [Act.put, List.setIfInBounds_toArray, List.set_cons_zero, List.set_cons_succ]
        refine wpAnyH_ready (rs := [23]) (by kernel_rfl) (by simp) ?_
        refine AllReadyH.cons rfl (fun K hK => ?_) AllReadyH.nil
        go_simp
        with_reducible refine G3.out.mono ?_
        rintro e w5 ⟨rfl, VX, hT, hC, hF⟩
        have RX := Lib.hid (RR.out.step hT hC hF)
        have K1x := Lib.hid (K1d.out.keep RR.out.tab hC)
        have K2x := Lib.hid (K2d.out.keep RR.out.tab hC)
        have hc5 : w5.cell? (ad.add i) = some (.int .i64 y) := by
          have h9 := K1x.out.kept.1
          obtain ⟨ad2, e2, h8⟩ := h9 i y HY.out
          cases e2
          exact h8
        clear G3 hT hC hF
        refine hK.out _ _ (hc5) (fun hHeld => ?_)
        clear hK K
        try simp only [Act.put, List.setIfInBounds_toArray, List.set_cons_zero, List.set_cons_succ]
        clear hc5
        refine take_on (i := 24) (some 101) (v := ?vr22) rfl rfl (by kernel_rfl) (by kernel_rfl) (by kernel_rfl) (fun _ _ _ h => h) (by rfl) ?hyr22 (by with_reducible exact hHeld) ?restr22
        case hyr22 => (intro wS hSw; (try dsimp only at hSw); go_simp; try with_reducible rfl)
        try simp only [Act.put, List.setIfInBounds_toArray, List.set_cons_zero, List.set_cons_succ]
        refine take_on (i := 25) (some 102) (v := ?vr23) rfl rfl (by kernel_rfl) (by kernel_rfl) (by kernel_rfl) (fun _ _ _ h => h) (by rfl) ?hyr23 (by with_reducible exact hHeld) ?restr23
        case hyr23 => (intro wS hSw; (try dsimp only at hSw); go_simp; try with_reducible rfl)
        try simp only [Act.put, List.setIfInBounds_toArray, List.set_cons_zero, List.set_cons_succ]
        refine wpAnyH_done (by kernel_rfl) ?_ _
        refine NoPanic.normal ?_
        go_wp2
        go_roundw
        case rel => exact ⟨i + 1, VX, by omega, by go_num, RX, K1x, K2x⟩
        case measure => simp [intOf]; omega
      · obtain rfl : i = hl := by omega
        go_wp2_with fail
        go_loopw [12] (fun t12 wr => ∃ (i : Nat) (V' : Nat → Value), i ≤ wl ∧ t12 = .int .i64 (i : Int) ∧ Hid (TabR base w wr T E n most V wait V' L) ∧ Hid (KO wr A2 c2 wt)) (fun t12 _ => wl - (intOf t12).toNat)
        case atStart => exact ⟨0, V', Nat.zero_le _, rfl, RB, K2⟩
        case round =>
          clear RB K1 K2
          obtain ⟨i, V', hi, rfl, RB, K2⟩ := hrel
          by_cases hlt : i < wl
          · have hlt' : (i : Int) < (wl : Int) := by omega
            obtain ⟨ad, y, hA, hy, hc⟩ := K2.out.kept.1.at_ (show i < wt.length by rw [← HWL.out]; exact hlt)
            subst hA
            have HY := Lib.hid hy
            have hin : y ∈ wt := List.mem_of_getElem? hy
            have hno : y ∉ ho := fun h2 => HND.out.2.2 y h2 hin
            have hc2 : wr.drew.cell? (ad.add i) = some (.int .i64 y) := hc
            have hti : (wt.take i).length = i := by rw [List.length_take, ← HWL.out]; omega
            have g2 := has_any (some ad) c2 i (wt.take i) y wr.drew hti (by omega) (K2.out.kept.1.take i)
            rw [decide_eq_false (not_take HND.out.2.1 hy)] at g2
            have R2 := RB.out.below (Below.refl _ _).drew
            have g3 := holdsM_any base T E n most (x : Int) y V' wait L wr.drew R2.tab hn HB.out
            rw [HOLD.out y, decide_eq_false hno] at g3
            have G2 := Lib.hid g2
            have G3 := Lib.hid g3
            have RR := Lib.hid R2
            have K2d := Lib.hid (K2.out.below (Below.refl _ _).drew)
            have HC2 := Lib.hid hc2
            have hic : i ≤ c2 := by have := K2.out.le; rw [← HWL.out] at this; omega
            clear hc hy hin hno g2 g3 R2 hc2 hti
            go_wp2_with fail
            refine wp_region_noPanic ?_
            refine wp_region_held_drew (S := fun w' => w'.cell? (ad.add i) = some (.int .i64 y)) (by kernel_rfl) (HC2.out) (fun hHeld => ?_)
            refine take_on (i := 0) (some 109) (v := ?vr24) rfl rfl (by kernel_rfl) (by kernel_rfl) (by kernel_rfl) (fun _ _ _ h => h) (by rfl) ?hyr24 (by with_reducible exact hHeld) ?restr24
            case hyr24 => (intro wS hSw; (try dsimp only at hSw); go_simp; try with_reducible rfl)
            try simp only [Act.put, List.setIfInBounds_toArray, List.set_cons_zero, List.set_cons_succ]
            refine take_on (i := 1) (some 110) (v := ?vr25) rfl rfl (by kernel_rfl) (by kernel_rfl) (by kernel_rfl) (fun _ _ _ h => h) (by rfl) ?hyr25 (by with_reducible exact hHeld) ?restr25
            case hyr25 => (intro wS hSw; (try dsimp only at hSw); go_simp; try with_reducible rfl)
            try simp only [Act.put, List.setIfInBounds_toArray, List.set_cons_zero, List.set_cons_succ]
            refine take_on (i := 2) (some 111) (v := ?vr26) rfl rfl (by kernel_rfl) (by kernel_rfl) (by kernel_rfl) (fun _ _ _ h => h) (by rfl) ?hyr26 (by with_reducible exact hHeld) ?restr26
            case hyr26 => (intro wS hSw; (try dsimp only at hSw); go_simp; try with_reducible rfl)
            try simp only [Act.put, List.setIfInBounds_toArray, List.set_cons_zero, List.set_cons_succ]
            refine take_on (i := 3) (some 112) (v := ?vr27) rfl rfl (by kernel_rfl) (by kernel_rfl) (by kernel_rfl) (fun _ _ _ h => h) (by rfl) ?hyr27 (by with_reducible exact hHeld) ?restr27
            case hyr27 => (intro wS hSw; (try dsimp only at hSw); go_simp; try with_reducible rfl)
            try simp only [Act.put, List.setIfInBounds_toArray, List.set_cons_zero, List.set_cons_succ]
            refine take_on (i := 4) (some 113) (v := ?vr28) rfl rfl (by kernel_rfl) (by kernel_rfl) (by kernel_rfl) (fun _ _ _ h => h) (by rfl) ?hyr28 (by with_reducible exact hHeld) ?restr28
            case hyr28 => (intro wS hSw; (try dsimp only at hSw); go_simp; try with_reducible rfl)
            try simp only [Act.put, List.setIfInBounds_toArray, List.set_cons_zero, List.set_cons_succ]
            refine take_on (i := 5) (some 114) (v := ?vr29) rfl rfl (by kernel_rfl) (by kernel_rfl) (by kernel_rfl) (fun _ _ _ h => h) (by rfl) ?hyr29 (by with_reducible exact hHeld) ?restr29
            case hyr29 => (intro wS hSw; (try dsimp only at hSw); go_simp; try with_reducible rfl)
            try simp only [Act.put, List.setIfInBounds_toArray, List.set_cons_zero, List.set_cons_succ]
            refine take_on (i := 6) (some 115) (v := ?vr30) rfl rfl (by kernel_rfl) (by kernel_rfl) (by kernel_rfl) (fun _ _ _ h => h) (by rfl) ?hyr30 (by with_reducible exact hHeld) ?restr30
            case hyr30 => (intro wS hSw; (try dsimp only at hSw); go_simp; try with_reducible rfl)
            try simp only [Act.put, List.setIfInBounds_toArray, List.set_cons_zero, List.set_cons_succ]
            refine wpAnyH_ready (rs := [7]) (by kernel_rfl) (by simp) ?_
            refine AllReadyH.cons rfl (fun K hK => ?_) AllReadyH.nil
            go_simp
            with_reducible refine G2.out.mono ?_
            rintro e wq ⟨rfl, rfl⟩
            clear G2
            refine hK.out _ _ (HC2.out) (fun hHeld => ?_)
            clear hK K
            try simp only [Act.put, List.setIfInBounds_toArray, List.set_cons_zero, List.set_cons_succ]
            refine take_on (i := 8) (some 117) (v := ?vr31) rfl rfl (by kernel_rfl) (by kernel_rfl) (by kernel_rfl) (fun _ _ _ h => h) (by rfl) ?hyr31 (by with_reducible exact hHeld) ?restr31
            case hyr31 => (intro wS hSw; (try dsimp only at hSw); go_simp; try with_reducible rfl)
            try simp only [Act.put, List.setIfInBounds_toArray, List.set_cons_zero, List.set_cons_succ]
            refine take_on (i := 9) (some 118) (v := ?vr32) rfl rfl (by kernel_rfl) (by kernel_rfl) (by kernel_rfl) (fun _ _ _ h => h) (by rfl) ?hyr32 (by with_reducible exact hHeld) ?restr32
            case hyr32 => (intro wS hSw; (try dsimp only at hSw); go_simp; try with_reducible rfl)
            try simp only [Act.put, List.setIfInBounds_toArray, List.set_cons_zero, List.set_cons_succ]
            refine take_on (i := 10) (some 119) (v := ?vr33) rfl rfl (by kernel_rfl) (by kernel_rfl) (by kernel_rfl) (fun _ _ _ h => h) (by rfl) ?hyr33 (by with_reducible exact hHeld) ?restr33
            case hyr33 => (intro wS hSw; (try dsimp only at hSw); go_simp; try with_reducible rfl)
            try simp only [Act.put, List.setIfInBounds_toArray, List.set_cons_zero, List.set_cons_succ]
            refine take_on (i := 11) (some 120) (v := ?vr34) rfl rfl (by kernel_rfl) (by kernel_rfl) (by kernel_rfl) (fun _ _ _ h => h) (by rfl) ?hyr34 (by with_reducible exact hHeld) ?restr34
            case hyr34 => (intro wS hSw; (try dsimp only at hSw); go_simp; try with_reducible rfl)
            try simp only [Act.put, List.setIfInBounds_toArray, List.set_cons_zero, List.set_cons_succ]
            refine take_on (i := 12) (some 121) (v := ?vr35) rfl rfl (by kernel_rfl) (by kernel_rfl) (by kernel_rfl) (fun _ _ _ h => h) (by rfl) ?hyr35 (by with_reducible exact hHeld) ?restr35
            case hyr35 => (intro wS hSw; (try dsimp only at hSw); go_simp; try with_reducible rfl)
            try simp only [Act.put, List.setIfInBounds_toArray, List.set_cons_zero, List.set_cons_succ]
            refine take_on (i := 13) (some 122) (v := ?vr36) rfl rfl (by kernel_rfl) (by kernel_rfl) (by kernel_rfl) (fun _ _ _ h => h) (by rfl) ?hyr36 (by with_reducible exact hHeld) ?restr36
            case hyr36 => (intro wS hSw; (try dsimp only at hSw); go_simp; try with_reducible rfl)
            try simp only [Act.put, List.setIfInBounds_toArray, List.set_cons_zero, List.set_cons_succ]
            refine take_on (i := 14) (some 123) (v := ?vr37) rfl rfl (by kernel_rfl) (by kernel_rfl) (by kernel_rfl) (fun _ _ _ h => h) (by rfl) ?hyr37 (by with_reducible exact hHeld) ?restr37
            case hyr37 => (intro wS hSw; (try dsimp only at hSw); go_simp; try with_reducible rfl)
            try simp only [Act.put, List.setIfInBounds_toArray, List.set_cons_zero, List.set_cons_succ]
            refine wpAnyH_ready (rs := [15]) (by kernel_rfl) (by simp) ?_
            refine AllReadyH.cons rfl (fun K hK => ?_) AllReadyH.nil
            go_simp
            with_reducible refine G3.out.mono ?_
            rintro e w5 ⟨rfl, VX, hT, hC, hF⟩
            have RX := Lib.hid (RR.out.step hT hC hF)
            have K2x := Lib.hid (K2d.out.keep RR.out.tab hC)
            have hc5 : w5.cell? (ad.add i) = some (.int .i64 y) := by
              have h9 := K2x.out.kept.1
              obtain ⟨ad2, e2, h8⟩ := h9 i y HY.out
              cases e2
              exact h8
            clear G3 hT hC hF
            refine hK.out _ _ (hc5) (fun hHeld => ?_)
            clear hK K
            try simp only [Act.put, List.setIfInBounds_toArray, List.set_cons_zero, List.set_cons_succ]
            clear hc5
            refine take_on (i := 16) (some 125) (v := ?vr38) rfl rfl (by kernel_rfl) (by kernel_rfl) (by kernel_rfl) (fun _ _ _ h => h) (by rfl) ?hyr38 (by with_reducible exact hHeld) ?restr38
            case hyr38 => (intro wS hSw; (try dsimp only at hSw); go_simp; try with_reducible rfl)
            try simp only [Act.put, List.setIfInBounds_toArray, List.set_cons_zero, List.set_cons_succ]
            refine wpAnyH_done (by kernel_rfl) ?_ _
            refine NoPanic.normal ?_
            go_wp2
            go_roundw
            case rel => exact ⟨i + 1, VX, by omega, by go_num, RX, K2x⟩
            case measure => simp [intOf]; omega
          · obtain rfl : i = wl := by omega
            go_wp2
            go_ret2
            rw [HW2.out]
            exact ⟨rfl, V', RB.out⟩
end Go.Proofs.Ytkjbjfjgnponfaa
