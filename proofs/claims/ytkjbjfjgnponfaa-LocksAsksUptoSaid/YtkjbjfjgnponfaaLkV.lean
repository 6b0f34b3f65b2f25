/- LocksAllCome: nobody waits for ever. -/
import Derived.Test.YtkjbjfjgnponfaaLkU
namespace Go.Proofs.Ytkjbjfjgnponfaa
open Go.RowKit
set_option linter.unusedSimpArgs false
set_option linter.unusedVariables false
theorem acq_heldG {n x : Nat} {L : Nat → List Pl} {wait most owner : Int} (hx : x < n) (hne : Hne n L) : (acqT n L wait most (x : Int) 2 owner).1 (x * 2) ≠ [] := by
  unfold acqT
  rw [if_neg (show ¬ ((2 : Int) ≠ 1 ∧ (2 : Int) ≠ 2) by omega), if_neg (show ¬ ¬ (0 ≤ (x : Int) ∧ (x : Int) < (n : Int)) by omega), Int.toNat_natCast]
  dsimp only
  rw [upd2_h]
  unfold acqL
  split
  · next h1 =>
    dsimp only
    intro e
    rcases h1 with h1 | h1
    · obtain ⟨i, _, hi⟩ := findI_ge h1
      rw [e] at hi; cases hi
    · obtain ⟨i, _, hi⟩ := findI_ge h1
      exact hne x hx (fun e2 => by rw [e2] at hi; cases hi) e
  · split
    · simp
    · next h1 h2 =>
      have key : L (x * 2) ≠ [] := by
        by_cases hr : L (x * 2 + 1) = []
        · exact goes_ne fun hg => h2 ⟨hr, hg⟩
        · exact hne x hx hr
      split
      · exact key
      · exact key
theorem come_owners : ∀ (r h : List Pl), (comeL h r).2.2 ++ (comeL h r).2.1.map (·.1) = r.map (·.1)
  | [], h => rfl
  | p :: q, h => by
    rw [comeL]
    split
    · dsimp only
      rw [List.cons_append, come_owners q]
      rfl
    · rfl
theorem rel_head {n x : Nat} {L : Nat → List Pl} {wait : Int} {p : Pl} {q : List Pl} (hx : x < n) (hh : L (x * 2) = p :: q) :
    (relT n L wait (x : Int) p.1).2.2.2 = 0 ∧ ((relT n L wait (x : Int) p.1).1 (x * 2)).length + ((relT n L wait (x : Int) p.1).1 (x * 2 + 1)).length + 1 = (L (x * 2)).length + (L (x * 2 + 1)).length ∧
      (relT n L wait (x : Int) p.1).2.2.1 ++ ((relT n L wait (x : Int) p.1).1 (x * 2 + 1)).map (·.1) = (L (x * 2 + 1)).map (·.1) := by
  have hf : findI (p :: q) p.1 = 0 := by
    unfold findI
    rw [List.findIdx?_cons]
    simp [hasO]
  have hl : leaveL (L (x * 2)) (L (x * 2 + 1)) p.1 = some ((comeL q (L (x * 2 + 1))).1, (comeL q (L (x * 2 + 1))).2.1, (comeL q (L (x * 2 + 1))).2.2, 0) := by
    unfold leaveL
    rw [hh, hf, if_pos (by decide)]
    rfl
  rw [relT_at hx, hl]
  dsimp only
  rw [upd2_h, upd2_r, hh]
  have h1 := comeL_len (L (x * 2 + 1)) q
  exact ⟨rfl, by rw [List.length_cons]; omega, come_owners _ _⟩
theorem slFp_blk {sz : Nat} {A : Option Addr} {k c g i : Nat} (h : slFp sz A k c g i) : ∃ ad, A = some ad ∧ ad.block = g := by
  obtain ⟨o, e, _⟩ := h
  exact ⟨_, e, rfl⟩
theorem KO.blk {v : World} {A : Option Addr} {c : Nat} {l : List Int} (h : KO v A c l) {ad : Addr} (e : A = some ad) : ∃ cs, Blk v ad.block 3 cs := h.kept.2 ad e
/-- a list of numbers of the call's own has grown: the table stays -/
theorem TabS.grew {base T E n : Nat} {s most wait : Int} {V : Nat → Value} {L : Nat → List Pl} {w w' : World} {A : Option Addr} {c k : Nat} {l : List Int} (h : TabS base w T E n s most wait V L) (hk : KO w A c l) (hC : Chg (slFp 1 A k c) w w') : TabS base w' T E n s most wait V L :=
  h.keep hC fun g hg i hf => by
    obtain ⟨ad, e, rfl⟩ := slFp_blk hf
    obtain ⟨cs, hb⟩ := hk.blk e
    rcases hg with hg | hg | ⟨j, hj, hg⟩
    · exact blk_type_ne hb h.tb (by decide) hg
    · exact blk_type_ne hb h.ex (by decide) hg
    · obtain ⟨_, cs2, hb2⟩ := (h.own j hj).blk hg
      exact blk_type_ne hb hb2 (by decide) rfl
/-- another list stays -/
theorem KO.grew {w w' : World} {A B : Option Addr} {c d k : Nat} {l : List Int} (h : KO w B d l) (hs : ∀ a b, A = some a → B = some b → a.block ≠ b.block) (hC : Chg (slFp 1 A k c) w w') : KO w' B d l :=
  h.chg hC fun b eb i hf => by
    obtain ⟨a, ea, e⟩ := slFp_blk hf
    exact hs a b ea eb e
set_option maxRecDepth 20000 in
set_option maxHeartbeats 16000000 in
theorem allcome_any (a b ex : Int) (A : Option Addr) (cap sl : Nat) (ops : List O5) (w : World) (hsl : ops.length = sl) (hsm : sl ≤ 3600000000000) (hr : RdS encO5 5 w A ops) :
    Calls Try.prog 4 #[.agg #[.int .i64 a, .int .i64 b], .int .i64 ex, .slice A sl cap] w fun e w' => e = .returned (.bool true) ∧ Below w.heap.size w w' := by
  have HR := Lib.hid hr
  have HSL := Lib.hid hsl
  have B0 := Lib.hid ((Below.refl w.heap.size w).alloc (Nat.le_refl _) (.cells #[.int .i64 a, .int .i64 b] 23))
  have b0 := Blk.new w 23 #[.int .i64 a, .int .i64 b]
  have g0 := may_any a b (w.alloc (.cells #[.int .i64 a, .int .i64 b] 23))
  obtain ⟨mb, hmb⟩ : ∃ mb, mb = (decide (1 ≤ a) && decide (a ≤ 4096) && decide (0 ≤ b) && decide (b ≤ 512)) := ⟨_, rfl⟩
  rw [← hmb] at g0
  have G0 := Lib.hid g0
  have HMB := Lib.hid hmb
  have BK := Lib.hid b0
  clear hr hsl g0 hmb b0
  go_enter Try.func4, Try.ntmps4
  go_wp2_with fail
  refine G0.out.mono ?_
  rintro e w1 ⟨rfl, hB1⟩
  have BK1 := Lib.hid (BK.out.below hB1 BK.out.lt)
  have B1 := Lib.hid (B0.out.trans (hB1.mono B0.out.size))
  have m0 : w1.cell? ⟨w.heap.size, 0, none⟩ = some (.int .i64 a) := BK1.out.cell 0
  have m1 : w1.cell? ⟨w.heap.size, 1, none⟩ = some (.int .i64 b) := BK1.out.cell 1
  clear G0 hB1 BK B0
  cases mb with
  | false =>
    go_wp2
    go_ret
    exact ⟨rfl, B1.out⟩
  | true =>
  by_cases hx0 : ex < 0
  · go_wp2
    go_ret
    exact ⟨rfl, B1.out⟩
  by_cases hxa : a ≤ ex
  · go_wp2
    go_ret
    exact ⟨rfl, B1.out⟩
  have hm2 : 1 ≤ a ∧ a ≤ 4096 ∧ 0 ≤ b ∧ b ≤ 512 := by have := HMB.out; simp at this; omega
  obtain ⟨n, rfl⟩ : ∃ n : Nat, a = (n : Int) := ⟨a.toNat, by omega⟩
  obtain ⟨x, rfl⟩ : ∃ x : Nat, ex = (x : Int) := ⟨ex.toNat, by omega⟩
  have hxn : x < n := by omega
  have hn1 : 1 ≤ n := by omega
  have hn2 : n ≤ 4096 := by omega
  have hb0 : 0 ≤ b := hm2.2.2.1
  have hb5 : b ≤ 512 := hm2.2.2.2
  have i0 : x * 2 < 2 * n := by omega
  have i1 : x * 2 + 1 < 2 * n := by omega
  have g1 := Lib.hid (table_ok n b w1 hn1 hn2 hb0 hb5)
  clear hm2
  go_wp2_with fail
  refine g1.out.mono ?_
  rintro e w2 ⟨T, E, rfl, hT, hB2⟩
  have B2 := Lib.hid (B1.out.trans (hB2.mono B1.out.size))
  have T2 := Lib.hid (hT.lower (b' := w.heap.size) B1.out.size)
  have I2 := Lib.hid (Inv.zero n)
  have G2 := Lib.hid (Good.nil_ n)
  clear g1 hT hB2 m0 m1 BK1 B1
  go_wp2_with fail
  go_loopw [9] (fun t9 wr => ∃ (i : Nat) (V : Nat → Value) (L : Nat → List Pl) (wait : Int), i ≤ sl ∧ t9 = .int .i64 (i : Int) ∧ Hid (TabS w.heap.size wr T E n 0 b wait V L) ∧ Hid (Inv n i L wait) ∧ Hid (Good n L) ∧ wait ≤ b ∧ Hid (Below w.heap.size w wr)) (fun t9 _ => sl - (intOf t9).toNat)
  case atStart => exact ⟨0, _, _, _, Nat.zero_le _, rfl, T2, I2, G2, hb0, B2⟩
  case round =>
    clear T2 I2 G2 B2
    obtain ⟨i, V, L, wait, hi, rfl, hT, hI, hG, hM, hB⟩ := hrel
    by_cases hlt : i < sl
    · have hlt' : (i : Int) < (sl : Int) := by omega
      obtain ⟨g, o, s, hA, hg, hx, hc⟩ := (HR.out.below hB.out).at_ (show i < ops.length by rw [HSL.out]; exact hlt)
      subst hA
      obtain ⟨kind, sec, oe, mode, ow⟩ := s
      have y0 : wr.cell? ⟨g, o + i * 5, none⟩ = some (.int .i64 kind) := hc 0 _ rfl
      have y1 : wr.cell? ⟨g, o + i * 5 + 1, none⟩ = some (.bool sec) := hc 1 _ rfl
      have y2 : wr.cell? ⟨g, o + i * 5 + 2, none⟩ = some (.int .i64 oe) := hc 2 _ rfl
      have y3 : wr.cell? ⟨g, o + i * 5 + 3, none⟩ = some (.int .i64 mode) := hc 3 _ rfl
      have y4 : wr.cell? ⟨g, o + i * 5 + 4, none⟩ = some (.int .i64 ow) := hc 4 _ rfl
      have gc := callD_any w.heap.size T E n i b kind oe mode ow sec V wait L wr hT.out hn2 hI.out (by omega) (by omega)
      have I4 := callD_inv (most := b) (kind := kind) (ex := oe) (mode := mode) (owner := ow) hI.out
      have G4 := callD_good (wait := wait) (most := b) (kind := kind) (ex := oe) (mode := mode) (owner := ow) hG.out
      have M4 := callD_most (kind := kind) (ex := oe) (mode := mode) (owner := ow) hI.out hM
      obtain ⟨pc, hpc⟩ : ∃ pc, pc = callD n L wait b kind oe mode ow := ⟨_, rfl⟩
      rw [← hpc] at gc I4 G4 M4
      have GC := Lib.hid gc
      have I4 := Lib.hid I4
      have G4 := Lib.hid G4
      clear hc hx gc hpc hI hG hM
      go_wp2_with fail
      refine GC.out.mono ?_
      rintro e w6 ⟨rfl, V6, hT6, hC, hF⟩
      have T6 := Lib.hid hT6
      have B6 := Lib.hid (hB.out.trans (hT.out.belM hC))
      clear GC hT6 hC hF hT hB y0 y1 y2 y3 y4
      go_wp2
      go_roundw
      case rel => exact ⟨i + 1, V6, _, _, by omega, by go_num, T6, I4, G4, M4, B6⟩
      case measure => simp [intOf]; omega
    · obtain rfl : i = sl := by omega
      have hwt0 := hI.out.waits.1
      have ga := acquireM_any w.heap.size T E n b (x : Int) 2 7 V wait L wr hT.out hn2 (hI.out.lens4 (by omega)) (by omega)
      have I4 := acq_inv (most := b) (ex := (x : Int)) (mode := 2) (owner := 7) hI.out
      have G4 := acq_good (wait := wait) (most := b) (ex := (x : Int)) (mode := 2) (owner := 7) hG.out
      have M4 := acq_most (n := n) (L := L) (ex := (x : Int)) (mode := 2) (owner := 7) hM
      have N4 := acq_heldG (wait := wait) (most := b) (owner := 7) hxn hI.out.hne
      obtain ⟨pa, hpa⟩ : ∃ pa, pa = acqT n L wait b (x : Int) 2 7 := ⟨_, rfl⟩
      rw [← hpa] at ga I4 G4 M4 N4
      have GA := Lib.hid ga
      have I4 := Lib.hid I4
      have G4 := Lib.hid G4
      have N4 := Lib.hid N4
      clear ga hpa hI hG hM
      go_wp2_with fail
      refine GA.out.mono ?_
      rintro e w4 ⟨rfl, V4, hT4, hC, hF⟩
      have T4 := Lib.hid hT4
      have B4 := Lib.hid (hB.out.trans (hT.out.belM hC))
      clear GA hT4 hC hF hT hB
      have wa4 : 0 ≤ pa.2.1 ∧ pa.2.1 ≤ 1000000 := by have := I4.out.waits; omega
      obtain ⟨ho, hho⟩ : ∃ v, v = (pa.1 (x * 2)).map (·.1) := ⟨_, rfl⟩
      obtain ⟨wt, hwt⟩ : ∃ v, v = (pa.1 (x * 2 + 1)).map (·.1) := ⟨_, rfl⟩
      obtain ⟨md, hmd⟩ : ∃ v, v = modeOf (pa.1 (x * 2)) 0 := ⟨_, rfl⟩
      have lB0 : listT n pa.1 (x : Int) 0 = (ho, md, 0) := by
        unfold listT
        rw [if_neg (show ¬ ¬ (0 ≤ (x : Int) ∧ (x : Int) < (n : Int)) by omega), if_neg (by decide), Int.toNat_natCast, hho, hmd]
      have lB1 : listT n pa.1 (x : Int) 1 = (wt, 1, 0) := by
        unfold listT
        rw [if_neg (show ¬ ¬ (0 ≤ (x : Int) ∧ (x : Int) < (n : Int)) by omega), if_pos rfl, Int.toNat_natCast, hwt]
      obtain ⟨hl, hhl⟩ : ∃ v, v = ho.length := ⟨_, rfl⟩
      obtain ⟨wl, hwl⟩ : ∃ v, v = wt.length := ⟨_, rfl⟩
      have hlm : hl ≤ 4000000000000 := by rw [hhl, hho, List.length_map]; exact I4.out.lens4 (by omega) _ i0
      have wlm : wl ≤ 512 := by
        have h7 := I4.out.row _ i1 (by omega)
        have h8 : wl = (pa.1 (x * 2 + 1)).length := by rw [hwl, hwt, List.length_map]
        omega
      have hl0 : 0 < hl := by rw [hhl, hho, List.length_map]; exact List.length_pos_iff.2 N4.out
      have hlz : ((hl : Int) == 0) = false := by rw [beq_eq_false_iff_ne]; omega
      have hlz2 : hl ≠ 0 := by omega
      have hmd2 : (md == 0) = false := by
        rw [beq_eq_false_iff_ne, hmd]
        cases hh : pa.1 (x * 2) with
        | nil => exact absurd hh N4.out
        | cons p q =>
          have := (G4.out x hxn).mods p (by rw [hh]; simp)
          show p.2 ≠ 0
          omega
      have hh1 : (pa.1 (x * 2)).length = hl := by rw [hhl, hho, List.length_map]
      have hh2 : (pa.1 (x * 2 + 1)).length = wl := by rw [hwl, hwt, List.length_map]
      have HH1 := Lib.hid hh1
      have HH2 := Lib.hid hh2
      have LB0 := Lib.hid lB0
      have LB1 := Lib.hid lB1
      have HHL := Lib.hid hhl
      have HWL := Lib.hid hwl
      have HHO := Lib.hid hho
      have HWT := Lib.hid hwt
      clear lB0 lB1 hho hwt hmd hhl hwl hh1 hh2
      have gl := waitersO_any w.heap.size T E n b (x : Int) V4 pa.2.1 pa.1 w4 T4.out hn2 (I4.out.lens4 (by omega)) wa4
      rw [LB1.out] at gl
      rw [show (wt, (1 : Int), (0 : Int)).1.length = wl from HWL.out.symm] at gl
      have GL := Lib.hid gl
      clear gl
      go_wp2_with fail
      refine GL.out.mono ?_
      rintro e wA ⟨A2, c2, rfl, r2, b2, V5, hT5, hC, hF⟩
      have T5 := Lib.hid hT5
      have B5 := Lib.hid (B4.out.trans (T4.out.belM hC))
      have K2 := Lib.hid r2
      clear GL hT5 hC hF r2 b2 T4 B4
      have gl := holdersO_any w.heap.size T E n b (x : Int) V5 pa.2.1 pa.1 wA T5.out hn2 (I4.out.lens4 (by omega)) wa4
      rw [LB0.out] at gl
      rw [show (ho, md, (0 : Int)).1.length = hl from HHL.out.symm] at gl
      have GL := Lib.hid gl
      clear gl
      go_wp2_with fail
      refine GL.out.mono ?_
      rintro e wB ⟨A1, c1, rfl, r1, b1, V6, hT6, hC, hF⟩
      have T6 := Lib.hid hT6
      have B6 := Lib.hid (B5.out.trans (T5.out.belM hC))
      have K2b := Lib.hid (K2.out.keep T5.out hC)
      have K1 := Lib.hid (show KO wB A1 c1 ((pa.1 (x * 2)).map (·.1)) from by rw [← HHO.out]; exact r1)
      clear GL hT6 hC hF r1 b1 T5 B5 K2 wa4
      go_wp2_with (go_at_call 18; (with_reducible refine (num_any _ _).mono ?_); rintro e w' ⟨rfl, rfl⟩)
      obtain ⟨sm, hsm2⟩ : ∃ sm, sm = hl + wl := ⟨_, rfl⟩
      have hsumn : (hl : Int) + (wl : Int) = (sm : Int) := by omega
      have HSM := Lib.hid hsm2
      have hsmb : sm ≤ 4000000001000 := by omega
      have HSN := Lib.hid hsumn
      clear hsumn hsm2
      rw [HSN.out]
      go_loopw [12, 15, 16] (fun t12 t15 t16 wr => ∃ (rnd hl : Nat) (V : Nat → Value) (L : Nat → List Pl) (wait : Int) (Ah Ac : Option Addr) (ch cc cn : Nat) (come : List Int), t16 = .int .i64 (rnd : Int) ∧ t12 = .slice Ah hl ch ∧ t15 = .slice Ac cn cc ∧ rnd ≤ 4000000001000 ∧ wait ≤ b ∧ Hid (TabS w.heap.size wr T E n 0 b wait V L) ∧ Hid (Inv n (i + 1) L wait) ∧ Hid (Good n L) ∧ Hid (KO wr Ah ch ((L (x * 2)).map (·.1))) ∧ Hid (KO wr A2 c2 wt) ∧ Hid (KO wr Ac cc come) ∧ Hid (∀ p, Ac = some p → w.heap.size ≤ p.block ∧ ∀ q, A2 = some q → p.block ≠ q.block) ∧
        Hid ((L (x * 2)).length + (L (x * 2 + 1)).length = rnd) ∧ Hid (come ++ (L (x * 2 + 1)).map (·.1) = wt) ∧ Hid ((L (x * 2)).length = hl) ∧ Hid (come.length = cn) ∧ Hid (Below w.heap.size w wr)) (fun _ _ t16 _ => (intOf t16).toNat)
      case atStart => exact ⟨sm, hl, _, _, _, _, none, _, 0, 0, [], rfl, rfl, rfl, hsmb, M4, T6, I4, G4, K1, K2b, Lib.hid ⟨GSl.nil_, .inl rfl⟩, Lib.hid (fun _ h => by cases h), Lib.hid (by rw [HH1.out, HH2.out, HSM.out]), Lib.hid (by rw [HWT.out]; rfl), HH1, Lib.hid rfl, B6⟩
      case round =>
        clear T6 I4 G4 K1 K2b B6 M4 HH1 HH2 HSN hl0 hlz hlz2 hmd2 N4 HHL HHO LB0 LB1
        obtain ⟨rnd, hl, V, L, wait, Ah, Ac, ch, cc, cn, come, rfl, rfl, rfl, hrb, hM, hT, hI, hG, hK1, hK2, hKc, hsep, hsum, hcome, hhl, hcn, hB⟩ := hrel
        by_cases hr0 : 0 < rnd
        · have hr0' : (0 : Int) < (rnd : Int) := by omega
          obtain ⟨p, q, hpq⟩ : ∃ p q, L (x * 2) = p :: q := by
            cases hh : L (x * 2) with
            | nil =>
              have hrn : L (x * 2 + 1) ≠ [] := fun e => by have := hsum.out; rw [hh, e] at this; simp at this; omega
              exact absurd hh ((hG.out x hxn).hne hrn)
            | cons p q => exact ⟨p, q, rfl⟩
          have hlpos : 0 < hl := by rw [← hhl.out, hpq]; simp
          have hlz : ((hl : Int) == 0) = false := by rw [beq_eq_false_iff_ne]; omega
          have hlz2 : hl ≠ 0 := by omega
          have hlpos' : (0 : Int) < (hl : Int) := by omega
          obtain ⟨ad, y, hA, hy, hc⟩ := hK1.out.kept.1.at_ (show 0 < ((L (x * 2)).map (·.1)).length by rw [List.length_map, hhl.out]; exact hlpos)
          obtain rfl : y = p.1 := by rw [hpq] at hy; simpa using hy.symm
          subst hA
          have hc0 : wr.cell? ad = some (.int .i64 p.1) := by rw [add_zero_] at hc; exact hc
          have hwt0 := hI.out.waits.1
          have gr := releaseO_any w.heap.size T E n b (x : Int) p.1 V wait L wr hT.out hn2 (hI.out.lens4 (by omega)) (by omega) (hI.out.row6 (by omega))
          have I5 := rel_inv (ex := (x : Int)) (owner := p.1) hI.out
          have G5 := rel_good (wait := wait) (ex := (x : Int)) (owner := p.1) hG.out
          have M5 := rel_most (n := n) (L := L) (ex := (x : Int)) (owner := p.1) hM
          obtain ⟨f1, f2, f3⟩ := rel_head (wait := wait) hxn hpq
          obtain ⟨pr, hpr⟩ : ∃ pr, pr = relT n L wait (x : Int) p.1 := ⟨_, rfl⟩
          rw [← hpr] at gr I5 G5 M5 f1 f2 f3
          obtain ⟨gn, hgn⟩ : ∃ k, k = pr.2.2.1.length := ⟨_, rfl⟩
          rw [f1, ← hgn] at gr
          have hcw : cn + gn ≤ wl := by
            have h1 := congrArg List.length hcome.out
            have h2 := congrArg List.length f3
            rw [List.length_append, hcn.out] at h1
            rw [List.length_append, ← hgn] at h2
            rw [HWL.out]
            omega
          have hlb : (pr.1 (x * 2)).length ≤ 4000000000000 := I5.lens4 (by omega) _ i0
          have GR := Lib.hid gr
          have I5 := Lib.hid I5
          have G5 := Lib.hid G5
          have F2 := Lib.hid f2
          have F3 := Lib.hid f3
          have HGN := Lib.hid hgn
          clear hc hy gr hpr f1 f2 f3 hgn hpq hK1 hI hG hM
          go_wp2_with fail
          refine GR.out.mono ?_
          rintro e w7 ⟨A5, c5, rfl, hK5, hb5', V7, hT7, hC, hF⟩
          have T7 := Lib.hid hT7
          have B7 := Lib.hid (hB.out.trans (hT.out.belM hC))
          have K2c := Lib.hid (hK2.out.keep hT.out hC)
          have Kcc := Lib.hid (hKc.out.keep hT.out hC)
          have K5 := Lib.hid hK5
          clear GR hT7 hC hF hT hB hK2 hKc hK5 hb5' hc0
          go_wp2_with fail
          refine (num_any 0 w7).mono ?_
          rintro e w' ⟨rfl, rfl⟩
          go_wp2_with (
            at_builtin
            refine wpList_appendG intTy (by decide) enc1_len enc1_one rfl (.tmp 108) (.tmp 109) rfl Ac cc come (by rw [hcn.out]; rfl) Kcc.out.1 A5 c5 pr.2.2.1 (by rw [← HGN.out]; rfl) K5.out.1.rds (by rw [hcn.out, ← HGN.out]; simp only [maxLen]; omega) (by rw [hcn.out, ← HGN.out]; omega) ?_
            intro A6 c6 w8 h8 k8 q8
            have hlen8 : (come ++ pr.2.2.1).length = cn + gn := by rw [List.length_append, hcn.out, ← HGN.out]
            rw [hlen8]
            have HL8 := Lib.hid hlen8
            have T8 := Lib.hid (T7.out.grew Kcc.out k8)
            have K2d := Lib.hid (K2c.out.grew (fun p q ep eq => (hsep.out p ep).2 q eq) k8)
            have Kn := Lib.hid (show KO w8 A6 c6 (come ++ pr.2.2.1) from ⟨h8, by
              rcases q8 with ⟨e1, _⟩ | ⟨g, e1, _⟩
              · rw [e1]; exact Kcc.out.2
              · exact .inr ⟨g, e1⟩⟩)
            have hsep8 := Lib.hid (show ∀ p, A6 = some p → w.heap.size ≤ p.block ∧ ∀ q, A2 = some q → p.block ≠ q.block from fun p ep => by
              rcases q8 with ⟨e1, _⟩ | ⟨g, e1, hg⟩
              · rw [e1] at ep; exact hsep.out p ep
              · rw [e1] at ep; cases ep
                refine ⟨Nat.le_trans B7.out.size hg, fun q eq => ?_⟩
                have := K2c.out.lt eq
                have hg2 : w7.heap.size ≤ g := hg
                show g ≠ q.block
                omega)
            have B8 := Lib.hid (B7.out.trans (k8.below B7.out.size fun k i hk hf => by
              obtain ⟨a, ea, e⟩ := slFp_blk hf
              have := (hsep.out a ea).1
              omega))
            clear h8 k8 q8 hlen8 T7 K2c Kcc K5 B7
          )
          have hlb2 : (pr.1 (x * 2)).length = (pr.1 (x * 2)).length := rfl
          obtain ⟨hl2, hhl2⟩ : ∃ k, k = (pr.1 (x * 2)).length := ⟨_, rfl⟩
          have lB0 : listT n pr.1 (x : Int) 0 = ((pr.1 (x * 2)).map (·.1), modeOf (pr.1 (x * 2)) 0, 0) := by
            unfold listT
            rw [if_neg (show ¬ ¬ (0 ≤ (x : Int) ∧ (x : Int) < (n : Int)) by omega), if_neg (by decide), Int.toNat_natCast]
          have wa5 : 0 ≤ pr.2.1 ∧ pr.2.1 ≤ 1000000 := by have := I5.out.waits; omega
          have gl := holdersO_any w.heap.size T E n b (x : Int) V7 pr.2.1 pr.1 w8 T8.out hn2 (I5.out.lens4 (by omega)) wa5
          rw [lB0] at gl
          rw [show ((pr.1 (x * 2)).map (·.1), modeOf (pr.1 (x * 2)) 0, (0 : Int)).1.length = hl2 from by rw [hhl2]; exact List.length_map _] at gl
          have GL := Lib.hid gl
          have HL2 := Lib.hid hhl2
          clear gl lB0 hlb2 hhl2 wa5
          go_wp2_with fail
          refine GL.out.mono ?_
          rintro e w9 ⟨A7, c7, rfl, r7, _, V9, hT9, hC, hF⟩
          have T9 := Lib.hid hT9
          have B9 := Lib.hid (B8.out.trans (T8.out.belM hC))
          have K29 := Lib.hid (K2d.out.keep T8.out hC)
          have Kn9 := Lib.hid (Kn.out.keep T8.out hC)
          have K19 := Lib.hid r7
          clear GL hT9 hC hF r7 T8 B8 K2d Kn
          go_wp2_with (go_at_call 18; (with_reducible refine (num_any _ _).mono ?_); rintro e w' ⟨rfl, rfl⟩)
          obtain ⟨rn2, rfl⟩ : ∃ k, rnd = k + 1 := ⟨rnd - 1, by omega⟩
          go_roundw
          case rel => exact ⟨rn2, hl2, V9, pr.1, pr.2.1, A7, A6, c7, c6, cn + gn, _, by go_num, rfl, rfl, by omega, M5, T9, I5, G5, K19, K29, Kn9, hsep8, Lib.hid (by have h1 := F2.out; have h2 := hsum.out; omega), Lib.hid (by rw [List.append_assoc, F3.out]; exact hcome.out), Lib.hid HL2.out.symm, HL8, B9⟩
          case measure => simp [intOf]
        · obtain rfl : rnd = 0 := by omega
          have h0 : L (x * 2) = [] := List.eq_nil_of_length_eq_zero (by have := hsum.out; omega)
          have h1 : L (x * 2 + 1) = [] := List.eq_nil_of_length_eq_zero (by have := hsum.out; omega)
          obtain rfl : hl = 0 := by rw [← hhl.out, h0]; rfl
          have hce : come = wt := by have := hcome.out; rw [h1] at this; simpa using this
          subst hce
          obtain rfl : cn = wl := by rw [← hcn.out, HWL.out]
          have lB1 : listT n L (x : Int) 1 = ([], 1, 0) := by
            unfold listT
            rw [if_neg (show ¬ ¬ (0 ≤ (x : Int) ∧ (x : Int) < (n : Int)) by omega), if_pos rfl, Int.toNat_natCast, h1]
            rfl
          have wa5 : 0 ≤ wait ∧ wait ≤ 1000000 := by have := hI.out.waits; omega
          have gl := waitersO_any w.heap.size T E n b (x : Int) V wait L wr hT.out hn2 (hI.out.lens4 (by omega)) wa5
          rw [lB1] at gl
          have GL := Lib.hid gl
          clear gl lB1 h0 h1 hsum hcome hhl wa5
          go_wp2_with fail
          refine GL.out.mono ?_
          rintro e w9 ⟨A7, c7, rfl, r7, _, V9, hT9, hC, hF⟩
          have B9 := Lib.hid (hB.out.trans (hT.out.belM hC))
          have K29 := Lib.hid (hK2.out.keep hT.out hC)
          have Kc9 := Lib.hid (hKc.out.keep hT.out hC)
          have gs := Lib.hid (same_yes Ac A2 cc c2 cn come w9 hcn.out (by omega) Kc9.out.kept.1 K29.out.kept.1)
          clear GL hT9 hC hF r7
          go_wp2_with fail
          refine gs.out.mono ?_
          rintro e wE ⟨rfl, hBE⟩
          have BE := Lib.hid (B9.out.trans (hBE.mono B9.out.size))
          clear gs hBE
          go_wp2_with (go_at_call 18; (with_reducible refine (num_any _ _).mono ?_); rintro e w' ⟨rfl, rfl⟩)
          go_ret
          exact ⟨rfl, BE.out⟩
theorem allcome_row (a b ex : Int) (A : Option Addr) (cap : Nat) (ops : List O5) (w : World) (_wf : (Lit.int .i64 ex).wf = true) (hsm : ops.length ≤ 3600000000000) (hr : RdS encO5 5 w A ops) :
    Calls Try.prog 4 #[.agg #[.int .i64 a, .int .i64 b], .int .i64 ex, .slice A ops.length cap] w fun e w' => e = .returned (.bool true) ∧ Below w.heap.size w w' :=
  allcome_any a b ex A cap ops.length ops w rfl hsm hr
end Go.Proofs.Ytkjbjfjgnponfaa
