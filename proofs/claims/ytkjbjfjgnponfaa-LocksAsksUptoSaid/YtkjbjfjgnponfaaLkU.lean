/- LocksSafe: mutual exclusion at every moment; nobody waits where nobody holds. -/
import Derived.Test.YtkjbjfjgnponfaaLkT
namespace Go.Proofs.Ytkjbjfjgnponfaa
open Go.RowKit
set_option linter.unusedSimpArgs false
set_option linter.unusedVariables false
theorem xor1_ne (o : Int) : bits .xor .i64 o 1 ≠ o := by
  intro h
  have h1 := congrArg (BitVec.ofInt 64) h
  have h2 : BitVec.ofInt 64 (bits .xor .i64 o 1) = BitVec.ofInt 64 o ^^^ BitVec.ofInt 64 1 := by
    show BitVec.ofInt 64 (IntKind.i64.wrap ((BitVec.ofInt 64 o ^^^ BitVec.ofInt 64 1).toNat : Int)) = _
    have hlt := (BitVec.ofInt 64 o ^^^ BitVec.ofInt 64 1).isLt
    rw [IntKind.wrap_i64]
    apply BitVec.eq_of_toNat_eq
    rw [BitVec.toNat_ofInt]
    omega
  rw [h2] at h1
  have h3 : BitVec.ofInt 64 o ^^^ (BitVec.ofInt 64 o ^^^ BitVec.ofInt 64 1) = BitVec.ofInt 64 o ^^^ BitVec.ofInt 64 o := by rw [h1]
  rw [← BitVec.xor_assoc, BitVec.xor_self, BitVec.zero_xor] at h3
  exact absurd h3 (by decide)
theorem acq_at {n x : Nat} {L : Nat → List Pl} {wait most mode owner : Int} (hx : x < n) (hm : mode = 1 ∨ mode = 2) {q : List Pl × List Pl × Nat × Bool × Int} (hq : acqL (L (x * 2)) (L (x * 2 + 1)) mode owner wait most = q) :
    acqT n L wait most (x : Int) mode owner = (upd (upd L (x * 2) q.1) (x * 2 + 1) q.2.1, wait + (q.2.2.1 : Int), q.2.2.2.1, q.2.2.2.2) := by
  unfold acqT
  rw [if_neg (show ¬ (mode ≠ 1 ∧ mode ≠ 2) by omega), if_neg (show ¬ ¬ (0 ≤ (x : Int) ∧ (x : Int) < (n : Int)) by omega), Int.toNat_natCast, hq]
theorem findI_one (o o2 m : Int) : findI [(o, m)] o2 = if o = o2 then 0 else -1 := by
  unfold findI
  rw [List.findIdx?_cons]
  by_cases h : o = o2
  · subst h; simp [hasO]
  · have : hasO o2 (o, m) = false := by simp [hasO]; exact h
    rw [this, if_neg h]
    simp
theorem safe_first {n : Nat} {most owner : Int} (hn : 1 ≤ n) : acqT n (fun _ => []) 0 most 0 2 owner = (upd (upd (fun _ => []) 0 [(owner, 2)]) 1 [], 0, true, 0) :=
  acq_at (x := 0) (q := ([(owner, 2)], [], 0, true, 0)) (by omega) (.inr rfl) (by
    unfold acqL
    rw [if_neg (by simp [findI]), if_pos ⟨rfl, rfl⟩]
    rfl)
theorem safe_second {n : Nat} {L : Nat → List Pl} {most owner : Int} (hn : 1 ≤ n) (h0 : L 0 = [(owner, 2)]) (h1 : L 1 = []) : acqT n L 0 most 0 1 owner = (upd (upd L 0 [(owner, 2)]) 1 [], 0, false, 91) :=
  acq_at (x := 0) (q := ([(owner, 2)], [], 0, false, 91)) (by omega) (.inl rfl) (by
    show acqL (L 0) (L 1) 1 owner 0 most = _
    rw [h0, h1]
    unfold acqL
    rw [if_pos (.inl (by rw [findI_one, if_pos rfl]; decide))])
theorem safe_third {n : Nat} {L : Nat → List Pl} {most owner o2 : Int} (hn : 1 ≤ n) (h0 : L 0 = [(owner, 2)]) (h1 : L 1 = []) (hne : o2 ≠ owner) : (acqT n L 0 most 0 2 o2).2.2 = (false, if 0 < most then 0 else 4) := by
  by_cases hm : 0 < most
  · show (acqT n L 0 most ((0 : Nat) : Int) 2 o2).2.2 = _
    rw [if_pos hm, acq_at (x := 0) (q := ([(owner, 2)], [(o2, 2)], 1, false, 0)) (by omega) (.inr rfl) (by
      show acqL (L 0) (L 1) 2 o2 0 most = _
      rw [h0, h1]
      unfold acqL
      rw [if_neg (by rw [findI_one, if_neg (fun e => hne e.symm)]; simp [findI]), if_neg (by rintro ⟨_, h⟩; cases h), if_neg (by omega)]
      rfl)]
  · show (acqT n L 0 most ((0 : Nat) : Int) 2 o2).2.2 = _
    rw [if_neg hm, acq_at (x := 0) (q := ([(owner, 2)], [], 0, false, 4)) (by omega) (.inr rfl) (by
      show acqL (L 0) (L 1) 2 o2 0 most = _
      rw [h0, h1]
      unfold acqL
      rw [if_neg (by rw [findI_one, if_neg (fun e => hne e.symm)]; simp [findI]), if_neg (by rintro ⟨_, h⟩; cases h), if_pos (by omega)])]
theorem rowSum_le {L : Nat → List Pl} : ∀ {n x : Nat}, x ≤ n → rowSum x L ≤ rowSum n L
  | 0, x, h => by obtain rfl : x = 0 := by omega
                  exact Nat.le_refl _
  | n + 1, x, h => by
    rcases Nat.lt_or_ge x (n + 1) with h1 | h1
    · have := rowSum_le (L := L) (show x ≤ n by omega); rw [rowSum]; omega
    · obtain rfl : x = n + 1 := by omega
      exact Nat.le_refl _
section
variable {base T E n : Nat} {w wr : World} {most wait : Int} {V : Nat → Value} {L : Nat → List Pl}
theorem TabS.belM (h : TabS base w T E n 0 most wait V L) (hC : Chg (fun k _ => Fp T E n V k) w wr) : Below base w wr := hC.below (Nat.le_trans h.hT (Nat.le_of_lt h.tb.lt)) fun k i hk hf => by have := (h.fpLt hf).1; omega
theorem TabS.keepB (h : TabS base w T E n 0 most wait V L) (hC : Chg (fun k _ => Fp T E n V k) w wr) {g t : Nat} {cs : Array Value} (hb : Blk w g t cs) (h1 : t ≠ 83) (h2 : t ≠ 93) (h3 : t ≠ 96) : Blk wr g t cs := hC.blk hb fun j hf => by
  rcases hf with hf | hf | ⟨j, hj, hf⟩
  · exact blk_type_ne hb h.tb h1 hf
  · exact blk_type_ne hb h.ex h2 hf
  · obtain ⟨_, cs, hb2⟩ := (h.own j hj).blk hf
    exact blk_type_ne hb hb2 h3 rfl
end
set_option maxRecDepth 20000 in
set_option maxHeartbeats 16000000 in
theorem safe_any (a b owner : Int) (A : Option Addr) (cap sl : Nat) (ops : List O5) (w : World) (hsl : ops.length = sl) (hsm : sl ≤ 3600000000000) (hr : RdS encO5 5 w A ops) :
    Calls Try.prog 12 #[.agg #[.int .i64 a, .int .i64 b], .slice A sl cap, .int .i64 owner] w fun e w' => e = .returned (.bool true) ∧ Below w.heap.size w w' := by
  have HR := Lib.hid hr
  have HSL := Lib.hid hsl
  have B0 := Lib.hid ((Below.refl w.heap.size w).alloc (Nat.le_refl _) (.cells #[.int .i64 a, .int .i64 b] 23))
  have b0 := Blk.new w 23 #[.int .i64 a, .int .i64 b]
  have g0 := may_any a b (w.alloc (.cells #[.int .i64 a, .int .i64 b] 23))
  obtain ⟨mb, hmb⟩ : ∃ mb, mb = (decide (1 ≤ a) && decide (a ≤ 4096) && decide (0 ≤ b) && decide (b ≤ 512)) := ⟨_, rfl⟩
  rw [← hmb] at g0
  have G0 := Lib.hid g0
  have HMB := Lib.hid hmb
  have BK := Lib.hid b0
  clear hr hsl g0 hmb b0
  go_enter Try.func12, Try.ntmps12
  go_wp2_with fail
  refine G0.out.mono ?_
  rintro e w1 ⟨rfl, hB1⟩
  have BK1 := Lib.hid (BK.out.below hB1 BK.out.lt)
  have B1 := Lib.hid (B0.out.trans (hB1.mono B0.out.size))
  have m0 : w1.cell? ⟨w.heap.size, 0, none⟩ = some (.int .i64 a) := BK1.out.cell 0
  have m1 : w1.cell? ⟨w.heap.size, 1, none⟩ = some (.int .i64 b) := BK1.out.cell 1
  clear G0 hB1 BK B0
  cases mb with
  | false =>
    go_wp2
    go_ret
    exact ⟨rfl, B1.out⟩
  | true =>
  have hm2 : 1 ≤ a ∧ a ≤ 4096 ∧ 0 ≤ b ∧ b ≤ 512 := by have := HMB.out; simp at this; omega
  obtain ⟨n, rfl⟩ : ∃ n : Nat, a = (n : Int) := ⟨a.toNat, by omega⟩
  have hn1 : 1 ≤ n := by omega
  have hn2 : n ≤ 4096 := by omega
  have hb0 : 0 ≤ b := hm2.2.2.1
  have hb5 : b ≤ 512 := hm2.2.2.2
  have g1 := Lib.hid (table_ok n b w1 hn1 hn2 hb0 hb5)
  clear hm2
  go_wp2_with fail
  refine g1.out.mono ?_
  rintro e w2 ⟨T, E, rfl, hT, hB2⟩
  have B2 := Lib.hid (B1.out.trans (hB2.mono B1.out.size))
  have T2 := Lib.hid (hT.lower (b' := w.heap.size) B1.out.size)
  have BK2 := Lib.hid (BK1.out.below hB2 BK1.out.lt)
  clear g1 hT hB2 m0 m1 BK1 B1
  -- the three
  have ga := acquireM_any w.heap.size T E n b ((0 : Nat) : Int) 2 owner (fun _ => nilS) 0 (fun _ => []) w2 T2.out hn2 (fun _ _ => Nat.zero_le _) (by omega)
  have I1 := acq_inv (most := b) (ex := ((0 : Nat) : Int)) (mode := 2) (owner := owner) (Inv.zero n)
  have D1 := acq_good (wait := 0) (most := b) (ex := ((0 : Nat) : Int)) (mode := 2) (owner := owner) (Good.nil_ n)
  rw [show ((0 : Nat) : Int) = 0 from rfl] at ga I1 D1
  rw [safe_first hn1] at ga I1 D1
  have GA := Lib.hid ga
  have I1 := Lib.hid I1
  have D1 := Lib.hid D1
  clear ga
  go_wp2_with fail
  refine GA.out.mono ?_
  rintro e w3 ⟨rfl, V3, hT, hC, hF⟩
  have T3 := Lib.hid hT
  have B3 := Lib.hid (B2.out.trans (T2.out.belM hC))
  have BK3 := Lib.hid (T2.out.keepB hC BK2.out (by decide) (by decide) (by decide))
  clear GA hT hC hF T2 B2 BK2
  obtain ⟨L1, hL1⟩ : ∃ L1 : Nat → List Pl, L1 = upd (upd (fun _ => []) 0 [(owner, 2)]) 1 [] := ⟨_, rfl⟩
  have l10 : L1 0 = [(owner, 2)] := by rw [hL1]; rfl
  have l11 : L1 1 = [] := by rw [hL1]; rfl
  rw [← hL1] at T3 I1 D1
  have ga := acquireM_any w.heap.size T E n b 0 1 owner V3 0 L1 w3 T3.out hn2 (fun j hj => by have := I1.out.lens j hj; omega) (by omega)
  have I2 := acq_inv (most := b) (ex := 0) (mode := 1) (owner := owner) I1.out
  have D2 := acq_good (wait := 0) (most := b) (ex := 0) (mode := 1) (owner := owner) D1.out
  rw [safe_second hn1 l10 l11] at ga I2 D2
  have GA := Lib.hid ga
  have I2 := Lib.hid I2
  have D2 := Lib.hid D2
  clear ga hL1 l10 l11
  go_wp2_with fail
  refine GA.out.mono ?_
  rintro e w4 ⟨rfl, V4, hT, hC, hF⟩
  have T4 := Lib.hid hT
  have B4 := Lib.hid (B3.out.trans (T3.out.belM hC))
  have BK4 := Lib.hid (T3.out.keepB hC BK3.out (by decide) (by decide) (by decide))
  clear GA hT hC hF T3 B3 BK3 I1 D1
  obtain ⟨L2, hL2⟩ : ∃ L2 : Nat → List Pl, L2 = upd (upd L1 0 [(owner, 2)]) 1 [] := ⟨_, rfl⟩
  have l20 : L2 0 = [(owner, 2)] := by rw [hL2]; rfl
  have l21 : L2 1 = [] := by rw [hL2]; rfl
  rw [← hL2] at T4 I2 D2
  have ga := acquireM_any w.heap.size T E n b 0 2 (bits .xor .i64 owner 1) V4 0 L2 w4 T4.out hn2 (fun j hj => by have := I2.out.lens j hj; omega) (by omega)
  have I3 := acq_inv (most := b) (ex := 0) (mode := 2) (owner := bits .xor .i64 owner 1) I2.out
  have D3 := acq_good (wait := 0) (most := b) (ex := 0) (mode := 2) (owner := bits .xor .i64 owner 1) D2.out
  have M3 := acq_most (n := n) (L := L2) (ex := 0) (mode := 2) (owner := bits .xor .i64 owner 1) hb0
  have e3 := safe_third (most := b) hn1 l20 l21 (xor1_ne owner)
  obtain ⟨pa, hpa⟩ : ∃ pa, pa = acqT n L2 0 b 0 2 (bits .xor .i64 owner 1) := ⟨_, rfl⟩
  rw [← hpa] at ga I3 D3 M3 e3
  rw [e3] at ga
  obtain ⟨full, hfull⟩ : ∃ f : Int, f = if 0 < b then 0 else 4 := ⟨_, rfl⟩
  rw [← hfull] at ga
  have GA := Lib.hid ga
  have I3 := Lib.hid I3
  have D3 := Lib.hid D3
  have HFU := Lib.hid hfull
  clear ga hL2 l20 l21 hpa e3 hfull
  go_wp2_with fail
  refine GA.out.mono ?_
  rintro e w5 ⟨rfl, V5, hT, hC, hF⟩
  have T5 := Lib.hid hT
  have B5 := Lib.hid (B4.out.trans (T4.out.belM hC))
  have BK5 := Lib.hid (T4.out.keepB hC BK4.out (by decide) (by decide) (by decide))
  clear GA hT hC hF T4 B4 BK4 I2 D2
  have m1 : w5.cell? ⟨w.heap.size, 1, none⟩ = some (.int .i64 b) := BK5.out.cell 1
  go_upto_if 52 with fail
  go_cut [15] (fun t15 wx => t15 = .int .i64 full ∧ w5 = wx)
  case first =>
    by_cases hbp : 0 < b
    · obtain rfl : full = 0 := by rw [HFU.out, if_pos hbp]
      go_wp2
      go_meet
      exact ⟨rfl, rfl⟩
    · obtain rfl : full = 4 := by rw [HFU.out, if_neg hbp]
      go_wp2
      go_meet
      exact ⟨rfl, rfl⟩
  case rest =>
    obtain ⟨rfl, rfl⟩ := hcut
    have hff : (full != full) = false := by simp
    go_wp2_with (go_at_call 18; (with_reducible refine (num_any _ _).mono ?_); rintro e w' ⟨rfl, rfl⟩)
    go_loopw [16] (fun t16 wr => ∃ (i : Nat) (V : Nat → Value) (L : Nat → List Pl) (wait : Int), i ≤ sl ∧ t16 = .int .i64 (i : Int) ∧ Hid (TabS w.heap.size wr T E n 0 b wait V L) ∧ Hid (Inv n (i + 3) L wait) ∧ Hid (Good n L) ∧ wait ≤ b ∧ Hid (Blk wr w.heap.size 23 #[.int .i64 (n : Int), .int .i64 b]) ∧ Hid (Below w.heap.size w wr)) (fun t16 _ => sl - (intOf t16).toNat)
    case atStart => exact ⟨0, _, _, _, Nat.zero_le _, rfl, T5, I3, D3, M3, BK5, B5⟩
    case round =>
      clear T5 I3 D3 M3 BK5 B5 m1 hff
      obtain ⟨i, V, L, wait, hi, rfl, hT, hI, hG, hM, hBK, hB⟩ := hrel
      by_cases hlt : i < sl
      · have hlt' : (i : Int) < (sl : Int) := by omega
        obtain ⟨g, o, s, hA, hg, hx, hc⟩ := (HR.out.below hB.out).at_ (show i < ops.length by rw [HSL.out]; exact hlt)
        subst hA
        obtain ⟨kind, sec, oe, mode, ow⟩ := s
        have y0 : wr.cell? ⟨g, o + i * 5, none⟩ = some (.int .i64 kind) := hc 0 _ rfl
        have y1 : wr.cell? ⟨g, o + i * 5 + 1, none⟩ = some (.bool sec) := hc 1 _ rfl
        have y2 : wr.cell? ⟨g, o + i * 5 + 2, none⟩ = some (.int .i64 oe) := hc 2 _ rfl
        have y3 : wr.cell? ⟨g, o + i * 5 + 3, none⟩ = some (.int .i64 mode) := hc 3 _ rfl
        have y4 : wr.cell? ⟨g, o + i * 5 + 4, none⟩ = some (.int .i64 ow) := hc 4 _ rfl
        have bb := (Below.refl wr.heap.size wr).alloc (Nat.le_refl _) (.cells #[.int .i64 kind, .bool sec, .int .i64 oe, .int .i64 mode, .int .i64 ow] 33)
        have HT2 := Lib.hid (hT.out.below bb)
        have HB2 := Lib.hid (hB.out.trans (bb.mono hB.out.size))
        have HBK2 := Lib.hid (hBK.out.below bb hBK.out.lt)
        have gc := callD_any w.heap.size T E n (i + 3) b kind oe mode ow sec V wait L _ HT2.out hn2 hI.out (by omega) (by omega)
        have I4 := callD_inv (most := b) (kind := kind) (ex := oe) (mode := mode) (owner := ow) hI.out
        have G4 := callD_good (wait := wait) (most := b) (kind := kind) (ex := oe) (mode := mode) (owner := ow) hG.out
        have M4 := callD_most (kind := kind) (ex := oe) (mode := mode) (owner := ow) hI.out hM
        obtain ⟨pc, hpc⟩ : ∃ pc, pc = callD n L wait b kind oe mode ow := ⟨_, rfl⟩
        rw [← hpc] at gc I4 G4 M4
        have GC := Lib.hid gc
        have I4 := Lib.hid I4
        have G4 := Lib.hid G4
        clear hc hx bb gc hpc hT hI hG hM
        go_wp2_with fail
        refine GC.out.mono ?_
        rintro e w6 ⟨rfl, V6, hT, hC, hF⟩
        have T6 := Lib.hid hT
        have B6 := Lib.hid (HB2.out.trans (HT2.out.belM hC))
        have BK6 := Lib.hid (HT2.out.keepB hC HBK2.out (by decide) (by decide) (by decide))
        clear GC hT hC hF HT2 HB2 HBK2 hB hBK y0 y1 y2 y3 y4
        have hsum := I4.out.sum
        obtain ⟨rs, hrs⟩ : ∃ rs, rs = rowSum n pc.1 := ⟨_, rfl⟩
        rw [← hrs] at hsum
        have hrb : (rs : Int) ≤ b := by omega
        have hrb2 : rs ≤ 512 := by omega
        rw [hsum] at T6 I4
        have HRS := Lib.hid hrs
        clear hsum hrs M4
        have hwb : 0 ≤ (rs : Int) ∧ (rs : Int) ≤ 1000000 := by omega
        have HWB := Lib.hid hwb
        clear hwb
        go_wp2_with fail
        obtain ⟨wo, rfl⟩ : ∃ wo : World, wo = wr := ⟨_, rfl⟩
        go_loopw [18, 19] (fun t18 t19 wr => ∃ (x : Nat) (V : Nat → Value), x ≤ n ∧ t19 = .int .i64 (x : Int) ∧ t18 = .int .i64 (rowSum x pc.1 : Int) ∧ Hid (TabS w.heap.size wr T E n 0 b (rs : Int) V pc.1) ∧ Hid (Blk wr w.heap.size 23 #[.int .i64 (n : Int), .int .i64 b]) ∧ Hid (Below w.heap.size w wr)) (fun _ t19 _ => n - (intOf t19).toNat)
        case atStart => exact ⟨0, _, Nat.zero_le _, rfl, rfl, T6, BK6, B6⟩
        case round =>
          clear T6 BK6 B6
          obtain ⟨x, V, hx, rfl, rfl, hT, hBK, hB⟩ := hrel
          have m0 : wr.cell? ⟨w.heap.size, 0, none⟩ = some (.int .i64 (n : Int)) := hBK.out.cell 0
          have m1 : wr.cell? ⟨w.heap.size, 1, none⟩ = some (.int .i64 b) := hBK.out.cell 1
          have hrx : rowSum x pc.1 ≤ rs := by rw [HRS.out]; exact rowSum_le hx
          by_cases hlx : x < n
          · have hlx' : (x : Int) < (n : Int) := by omega
            have gs := sound_any w.heap.size T E n x b V (rs : Int) pc.1 wr hT.out hlx hn2 (fun j hj => by have := I4.out.lens j hj; omega) HWB.out (G4.out x hlx)
            obtain ⟨rl, hrl⟩ : ∃ rl, rl = (pc.1 (x * 2 + 1)).length := ⟨_, rfl⟩
            rw [← hrl] at gs
            have hrl2 : rl ≤ 512 := by have := row_sum (L := pc.1) hlx; have := HRS.out; omega
            have hnext : rowSum (x + 1) pc.1 = rowSum x pc.1 + rl := by rw [rowSum, hrl]
            have HNX := Lib.hid hnext
            have GS := Lib.hid gs
            clear gs hrl hnext
            go_wp2_with fail
            refine GS.out.mono ?_
            rintro e w7 ⟨rfl, V7, hR⟩
            have T7 := Lib.hid hR.tab
            have B7 := Lib.hid (hB.out.trans (hT.out.belM hR.chg))
            have BK7 := Lib.hid (hT.out.keepB hR.chg hBK.out (by decide) (by decide) (by decide))
            clear GS hR hT hBK hB m0 m1
            go_wp2
            go_roundw
            case rel => exact ⟨x + 1, V7, by omega, by go_num, by rw [HNX.out]; go_num, T7, BK7, B7⟩
            case measure => simp [intOf]; omega
          · obtain rfl : x = n := by omega
            rw [← HRS.out]
            have gw := Lib.hid (waitingM_any w.heap.size T E x b (rs : Int) V pc.1 wr hT.out)
            have hrr : ((rs : Int) != (rs : Int)) = false := by simp
            have hnb : ¬ b < (rs : Int) := by omega
            go_wp2_with fail
            refine gw.out.mono ?_
            rintro e w8 ⟨rfl, hT8, hC8⟩
            have T8 := Lib.hid hT8
            have B8 := Lib.hid (hB.out.trans (hT.out.belM hC8))
            have BK8 := Lib.hid (hT.out.keepB hC8 hBK.out (by decide) (by decide) (by decide))
            have m1 : w8.cell? ⟨w.heap.size, 1, none⟩ = some (.int .i64 b) := BK8.out.cell 1
            clear gw hT8 hC8 hT hB hBK m0
            go_wp2
            go_roundw
            case rel => exact ⟨i + 1, V, pc.1, (rs : Int), by omega, by go_num, T8, I4, G4, hrb, BK8, B8⟩
            case measure => simp [intOf]; omega
      · obtain rfl : i = sl := by omega
        go_wp2
        go_ret
        exact ⟨rfl, hB.out⟩
theorem safe_row (a b : Int) (A : Option Addr) (cap : Nat) (ops : List O5) (owner : Int) (w : World) (hsm : ops.length ≤ 3600000000000) (hr : RdS encO5 5 w A ops) (_wf : (Lit.int .i64 owner).wf = true) :
    Calls Try.prog 12 #[.agg #[.int .i64 a, .int .i64 b], .slice A ops.length cap, .int .i64 owner] w fun e w' => e = .returned (.bool true) ∧ Below w.heap.size w w' :=
  safe_any a b owner A cap ops.length ops w rfl hsm hr
end Go.Proofs.Ytkjbjfjgnponfaa
