/- LocksApart: what a table answers of one extent hangs on that extent's calls alone. -/
import Derived.Test.YtkjbjfjgnponfaaLkJ
namespace Go.Proofs.Ytkjbjfjgnponfaa
open Go.RowKit
set_option linter.unusedSimpArgs false
theorem TabS.lower {b b' : Nat} {wr : World} {T E n : Nat} {s most wait : Int} {V : Nat → Value} {L : Nat → List Pl} (h : TabS b wr T E n s most wait V L) (hb : b' ≤ b) : TabS b' wr T E n s most wait V L := by
  refine ⟨h.tb, h.ex, fun i hi => ?_, h.sep, Nat.le_trans hb h.hT, Nat.le_trans hb h.hE⟩
  obtain ⟨A, c, e, hG, hA⟩ := h.own i hi
  refine ⟨A, c, e, hG, ?_⟩
  rcases hA with hA | ⟨g, hA, hg⟩
  · exact .inl hA
  · exact .inr ⟨g, hA, Nat.le_trans hb hg⟩
theorem tot_nil : ∀ n, tot n (fun _ => []) = 0
  | 0 => rfl
  | n + 1 => by rw [tot, tot_nil n]; rfl
theorem rowSum_nil : ∀ n, rowSum n (fun _ => []) = 0
  | 0 => rfl
  | n + 1 => by rw [rowSum, rowSum_nil n]; rfl
theorem Inv.zero (n : Nat) : Inv n 0 (fun _ => []) 0 := ⟨by rw [tot_nil]; exact Nat.le_refl _, by rw [rowSum_nil]; rfl, fun _ _ h => absurd rfl h⟩
theorem Inv.bounds {n i : Nat} {L : Nat → List Pl} {wait : Int} (h : Inv n i L wait) (hi : i ≤ 512) : (∀ j, j < 2 * n → (L j).length ≤ 4000000000000) ∧ (∀ j, j < 2 * n → j % 2 = 1 → (L j).length ≤ 1000000) ∧ (0 ≤ wait ∧ wait ≤ 1000000) ∧ wait < 512 := by
  have h1 := h.waits
  exact ⟨fun j hj => by have := h.lens j hj; omega, fun j hj _ => by have := h.lens j hj; omega, by omega, by omega⟩
theorem rel_len {n x : Nat} {L : Nat → List Pl} {wait owner : Int} (hx : x < n) : (relT n L wait (x : Int) owner).2.2.1.length ≤ (L (x * 2 + 1)).length := by
  unfold relT
  rw [if_neg (show ¬ ¬ (0 ≤ (x : Int) ∧ (x : Int) < (n : Int)) by omega), Int.toNat_natCast]
  cases hl : leaveL (L (x * 2)) (L (x * 2 + 1)) owner with
  | none => exact Nat.zero_le _
  | some q => have := leave_len hl; dsimp only; omega
theorem call_inv {n i : Nat} {L : Nat → List Pl} {wait most kind ex mode owner : Int} (h : Inv n i L wait) : Inv n (i + 1) (callT n L wait most kind ex mode owner).1 (callT n L wait most kind ex mode owner).2 := by
  unfold callT
  split
  · exact acq_inv h
  · split
    · exact (rel_inv h).mono (by omega)
    · exact h.mono (by omega)
theorem call_far {n x : Nat} {L : Nat → List Pl} {wait most kind ex mode owner : Int} (hx : ex ≠ (x : Int)) : (callT n L wait most kind ex mode owner).1 (x * 2) = L (x * 2) ∧ (callT n L wait most kind ex mode owner).1 (x * 2 + 1) = L (x * 2 + 1) := by
  unfold callT
  split
  · exact acq_far hx
  · split
    · exact rel_far hx
    · exact ⟨rfl, rfl⟩
/-- a list that was handed out -/
def KeptL (v : World) (A : Option Addr) (l : List Int) : Prop := Rd encI v A l ∧ ∀ ad, A = some ad → ∃ cs, Blk v ad.block 3 cs
theorem KeptL.keep {v v' : World} {A : Option Addr} {l : List Int} {base T E n : Nat} {s most wait : Int} {V : Nat → Value} {L : Nat → List Pl} (h : KeptL v A l) (ht : TabS base v T E n s most wait V L) (hC : Chg (fun k _ => Fp T E n V k) v v') : KeptL v' A l := by
  have key : ∀ ad, A = some ad → ∀ j : Nat, ¬ Fp T E n V ad.block := fun ad e _ hf => by
    obtain ⟨cs, hb⟩ := h.2 ad e
    rcases hf with hf | hf | ⟨j, hj, hf⟩
    · exact blk_type_ne hb ht.tb (by decide) hf
    · exact blk_type_ne hb ht.ex (by decide) hf
    · obtain ⟨_, cs2, hb2⟩ := (ht.own j hj).blk hf
      exact blk_type_ne hb hb2 (by decide) rfl
  refine ⟨h.1.keep fun ad e hl => hC.far _ hl fun j hf => key ad e j hf, fun ad e => ?_⟩
  obtain ⟨cs, hb⟩ := h.2 ad e
  exact ⟨cs, hC.blk hb fun j hf => key ad e j hf⟩
abbrev O5 := Int × Bool × Int × Int × Int
def encO5 (o : O5) : List Value := [.int .i64 o.1, .bool o.2.1, .int .i64 o.2.2.1, .int .i64 o.2.2.2.1, .int .i64 o.2.2.2.2]
set_option maxRecDepth 20000 in
set_option maxHeartbeats 16000000 in
theorem apart_any (a b ex : Int) (A : Option Addr) (cap sl : Nat) (ops : List O5) (w : World) (hsl : ops.length = sl) (hsm : sl ≤ 9223372036854775807) (hr : RdS encO5 5 w A ops) :
    Calls Try.prog 5 #[.agg #[.int .i64 a, .int .i64 b], .slice A sl cap, .int .i64 ex] w fun e w' => e = .returned (.bool true) ∧ Below w.heap.size w w' := by
  have HR := Lib.hid hr
  have HSL := Lib.hid hsl
  have B0 := Lib.hid ((Below.refl w.heap.size w).alloc (Nat.le_refl _) (.cells #[.int .i64 a, .int .i64 b] 23))
  have b0 := Blk.new w 23 #[.int .i64 a, .int .i64 b]
  have g0 := may_any a b (w.alloc (.cells #[.int .i64 a, .int .i64 b] 23))
  obtain ⟨mb, hmb⟩ : ∃ mb, mb = (decide (1 ≤ a) && decide (a ≤ 4096) && decide (0 ≤ b) && decide (b ≤ 512)) := ⟨_, rfl⟩
  rw [← hmb] at g0
  have G0 := Lib.hid g0
  have HMB := Lib.hid hmb
  have BK := Lib.hid b0
  clear hr hsl g0 hmb b0
  go_enter Try.func5, Try.ntmps5
  go_wp2_with fail
  refine G0.out.mono ?_
  rintro e w1 ⟨rfl, hB1⟩
  have BK1 := Lib.hid (BK.out.below hB1 BK.out.lt)
  have B1 := Lib.hid (B0.out.trans (hB1.mono B0.out.size))
  have m0 : w1.cell? ⟨w.heap.size, 0, none⟩ = some (.int .i64 a) := BK1.out.cell 0
  have m1 : w1.cell? ⟨w.heap.size, 1, none⟩ = some (.int .i64 b) := BK1.out.cell 1
  have mf := BK1.out.frozen 1
  clear G0 hB1 BK B0
  cases mb with
  | false =>
    go_wp2
    go_ret
    exact ⟨rfl, B1.out⟩
  | true =>
  by_cases hx0 : ex < 0
  · go_wp2
    go_ret
    exact ⟨rfl, B1.out⟩
  by_cases hxa : a ≤ ex
  · go_wp2
    go_ret
    exact ⟨rfl, B1.out⟩
  by_cases hs : (512 : Int) < (sl : Int)
  · go_wp2
    go_ret
    exact ⟨rfl, B1.out⟩
  have hm2 : 1 ≤ a ∧ a ≤ 4096 := by have := HMB.out; simp at this; omega
  obtain ⟨n, rfl⟩ : ∃ n : Nat, a = (n : Int) := ⟨a.toNat, by omega⟩
  obtain ⟨x, rfl⟩ : ∃ x : Nat, ex = (x : Int) := ⟨ex.toNat, by omega⟩
  have hxn : x < n := by omega
  have hn1 : 1 ≤ n := by omega
  have hn2 : n ≤ 4096 := by omega
  have hs2 : sl ≤ 512 := by omega
  have i0 : x * 2 < 2 * n := by omega
  have i1 : x * 2 + 1 < 2 * n := by omega
  have B2 := Lib.hid (B1.out.setCell (p := ⟨w.heap.size, 1, none⟩) (Nat.le_refl _) (.int .i64 512))
  have BK2 := Lib.hid (show Blk (w1.setCell ⟨w.heap.size, 1, none⟩ (.int .i64 512)) w.heap.size 23 #[.int .i64 (n : Int), .int .i64 512] from BK1.out.set_ 1 (.int .i64 512))
  have g1 := Lib.hid (table_ok n 512 (w1.setCell ⟨w.heap.size, 1, none⟩ (.int .i64 512)) hn1 hn2 (by omega) (by omega))
  clear hm2
  go_wp2_with fail
  refine g1.out.mono ?_
  rintro e w2 ⟨Ta, Ea, rfl, hTa, hB2⟩
  -- TAIL: printed by gen_LkApart.py
  have hTa1 := Lib.hid (hTa.lower (b' := w.heap.size) B2.out.size)
  have B3 := Lib.hid (B2.out.trans (hB2.mono B2.out.size))
  have BK3 := Lib.hid (BK2.out.below hB2 BK2.out.lt)
  have n0 : w2.cell? ⟨w.heap.size, 0, none⟩ = some (.int .i64 (n : Int)) := BK3.out.cell 0
  have n1 : w2.cell? ⟨w.heap.size, 1, none⟩ = some (.int .i64 512) := BK3.out.cell 1
  have g2 := Lib.hid (table_ok n 512 w2 hn1 hn2 (by omega) (by omega))
  clear g1 hTa hB2 BK2 m0 m1 mf
  go_wp2_with fail
  refine g2.out.mono ?_
  rintro e w3 ⟨Tb, Eb, rfl, hTb, hB3⟩
  have T0 : Two w w3 Ta Ea Tb Eb n x 0 (fun _ => nilS) (fun _ => nilS) (fun _ => []) (fun _ => []) 0 0 := by
    refine ⟨hTa1.out.below hB3, hTb.lower (b' := w.heap.size) B3.out.size, fun k hk hk2 => ?_, Inv.zero n, Inv.zero n, rfl, rfl, B3.out.trans (hB3.mono B3.out.size)⟩
    have h1 := (hTa1.out.fpLt hk).2
    have h2 := (hTb.fpLt hk2).1
    omega
  have HT0 := Lib.hid T0
  clear g2 hTb hB3 T0 hTa1 n0 n1
  go_wp2_with fail
  go_loopw [10] (fun t10 wr => ∃ (i : Nat) (Va Vb : Nat → Value) (La Lb : Nat → List Pl) (wa wb : Int), i ≤ sl ∧ t10 = .int .i64 (i : Int) ∧ Hid (Two w wr Ta Ea Tb Eb n x i Va Vb La Lb wa wb)) (fun t10 _ => sl - (intOf t10).toNat)
  case atStart => exact ⟨0, _, _, _, _, _, _, by omega, rfl, HT0⟩
  case round =>
    obtain ⟨i, Va, Vb, La, Lb, wa, wb, hi, rfl, h2⟩ := hrel
    clear HT0
    by_cases hlt : i < sl
    · have hlt' : (i : Int) < (sl : Int) := by omega
      obtain ⟨g, o, s, hA, hg, hx, hc⟩ := (HR.out.below h2.out.bel).at_ (show i < ops.length by rw [HSL.out]; exact hlt)
      subst hA
      obtain ⟨kind, sec, oe, mode, owner⟩ := s
      have y0 : wr.cell? ⟨g, o + i * 5, none⟩ = some (.int .i64 kind) := hc 0 _ rfl
      have y1 : wr.cell? ⟨g, o + i * 5 + 1, none⟩ = some (.bool sec) := hc 1 _ rfl
      have y2 : wr.cell? ⟨g, o + i * 5 + 2, none⟩ = some (.int .i64 oe) := hc 2 _ rfl
      have y3 : wr.cell? ⟨g, o + i * 5 + 3, none⟩ = some (.int .i64 mode) := hc 3 _ rfl
      have y4 : wr.cell? ⟨g, o + i * 5 + 4, none⟩ = some (.int .i64 owner) := hc 4 _ rfl
      have H2 := Lib.hid (h2.out.below ((Below.refl wr.heap.size wr).alloc (Nat.le_refl _) (.cells #[.int .i64 kind, .bool sec, .int .i64 oe, .int .i64 mode, .int .i64 owner] 33)))
      obtain ⟨ha1, ha2, ha3, ha4⟩ := H2.out.ia.bounds (by omega)
      obtain ⟨hb1, hb2, hb3, hb4⟩ := H2.out.ib.bounds (by omega)
      have HA4 := Lib.hid ha4
      have HB4 := Lib.hid hb4
      clear hc hx ha4 hb4
      by_cases hk3 : kind = 3
      · subst hk3
        have H3 := Lib.hid (H2.out.more (Nat.le_succ i))
        by_cases he : oe = (x : Int)
        · subst he
          go_wp2
          go_roundw
          case rel => exact ⟨i + 1, Va, Vb, La, Lb, wa, wb, by omega, by go_num, H3⟩
          case measure => simp [intOf]; omega
        · have he' : (oe != (x : Int)) = true := by rw [bne_iff_ne]; exact he
          go_wp2
          go_roundw
          case rel => exact ⟨i + 1, Va, Vb, La, Lb, wa, wb, by omega, by go_num, H3⟩
          case measure => simp [intOf]; omega
      · have hk3' : (kind == 3) = false := by rw [beq_eq_false_iff_ne]; exact hk3
        have hk3n : (kind != 3) = true := by rw [bne_iff_ne]; exact hk3
        by_cases he : oe = (x : Int)
        · subst he
          by_cases k1 : kind = 1
          · subst k1
            obtain ⟨qe, q0, q1⟩ := acq_eq (most := 512) (mode := mode) (owner := owner) hxn H2.out.eh H2.out.er HA4.out HB4.out
            have QE := Lib.hid qe
            have Q0 := Lib.hid q0
            have Q1 := Lib.hid q1
            obtain ⟨pa, hpa⟩ : ∃ pa, pa = acqT n La wa 512 (x : Int) mode owner := ⟨_, rfl⟩
            obtain ⟨pb, hpb⟩ : ∃ pb, pb = acqT n Lb wb 512 (x : Int) mode owner := ⟨_, rfl⟩
            have ga := acquireM_any w.heap.size Ta Ea n 512 (x : Int) mode owner Va wa La _ H2.out.ta hn2 ha1 ha3
            have IA := acq_inv (most := 512) (ex := (x : Int)) (mode := mode) (owner := owner) H2.out.ia
            have IB := acq_inv (most := 512) (ex := (x : Int)) (mode := mode) (owner := owner) H2.out.ib
            rw [← hpa] at ga QE Q0 Q1 IA
            rw [← hpb] at QE Q0 Q1 IB
            rw [QE.out] at ga
            have GA := Lib.hid ga
            have HPB := Lib.hid hpb
            have IA := Lib.hid IA
            have IB := Lib.hid IB
            obtain ⟨okv, hok⟩ : ∃ v, v = pb.2.2.1 := ⟨_, rfl⟩
            obtain ⟨erv, her⟩ : ∃ v, v = pb.2.2.2 := ⟨_, rfl⟩
            rw [← hok, ← her] at GA
            have HOK := Lib.hid hok
            have HER := Lib.hid her
            clear ga qe q0 q1 hpa hpb hok her
            go_wp2_with fail
            refine GA.out.mono ?_
            rintro e w5 ⟨rfl, V5, hT5, hC5, hF5⟩
            obtain ⟨tb5, dj5, bl5⟩ := H2.out.stepA hT5 hC5 hF5
            have z2 := (Blk.new wr 33 #[.int .i64 1, .bool sec, .int .i64 (x : Int), .int .i64 mode, .int .i64 owner])
            have b5 := hC5.blk z2 fun j hf => by
              rcases hf with hf | hf | ⟨j, hj, hf⟩
              · exact blk_type_ne z2 H2.out.ta.tb (by decide) hf
              · exact blk_type_ne z2 H2.out.ta.ex (by decide) hf
              · obtain ⟨_, cs, hb⟩ := (H2.out.ta.own j hj).blk hf
                exact blk_type_ne z2 hb (by decide) rfl
            have v0 : w5.cell? ⟨wr.heap.size, 0, none⟩ = some (.int .i64 1) := b5.cell 0
            have v2 : w5.cell? ⟨wr.heap.size, 2, none⟩ = some (.int .i64 (x : Int)) := b5.cell 2
            have v3 : w5.cell? ⟨wr.heap.size, 3, none⟩ = some (.int .i64 mode) := b5.cell 3
            have v4 : w5.cell? ⟨wr.heap.size, 4, none⟩ = some (.int .i64 owner) := b5.cell 4
            have H5 := Lib.hid (show Two w w5 Ta Ea Tb Eb n x (i + 1) V5 Vb pa.1 Lb pa.2.1 wb → True from fun _ => trivial)
            have gb := acquireM_any w.heap.size Tb Eb n 512 (x : Int) mode owner Vb wb Lb w5 tb5 hn2 hb1 hb3
            rw [← HPB.out, ← HOK.out, ← HER.out] at gb
            have GB := Lib.hid gb
            have HT5 := Lib.hid hT5
            have TB5 := Lib.hid tb5
            have DJ5 := Lib.hid dj5
            have BL5 := Lib.hid bl5
            have HB5 := Lib.hid b5
            clear GA gb hT5 hC5 hF5 tb5 dj5 bl5 z2 b5 H5 y0 y1 y2 y3 y4
            go_wp2_with fail
            refine GB.out.mono ?_
            rintro e w6 ⟨rfl, V6, hT6, hC6, hF6⟩
            have H6 : Two w w6 Ta Ea Tb Eb n x (i + 1) V5 V6 pa.1 pb.1 pa.2.1 pb.2.1 := by
              refine ⟨HT5.out.keep hC6 fun k hk j hf => DJ5.out k hk hf, hT6, fun k hk hk2 => ?_, IA.out, IB.out, Q0.out, Q1.out, BL5.out.trans (hC6.below BL5.out.size fun k j hk hf => ?_)⟩
              · rcases hF6 k hk2 with h3 | h3
                · exact DJ5.out k hk h3
                · have := (HT5.out.fpLt hk).2; omega
              · have := (TB5.out.fpLt hf).1; omega
            have HH6 := Lib.hid H6
            have b6 := hC6.blk HB5.out fun j hf => by
              rcases hf with hf | hf | ⟨j, hj, hf⟩
              · exact blk_type_ne HB5.out TB5.out.tb (by decide) hf
              · exact blk_type_ne HB5.out TB5.out.ex (by decide) hf
              · obtain ⟨_, cs, hb⟩ := (TB5.out.own j hj).blk hf
                exact blk_type_ne HB5.out hb (by decide) rfl
            have u0 : w6.cell? ⟨wr.heap.size, 0, none⟩ = some (.int .i64 1) := b6.cell 0
            have e1 : (okv != okv) = false := by simp
            have e2 : (erv != erv) = false := by simp
            clear GB hT6 hC6 hF6 H6 v0 v2 v3 v4 b6
            go_wp2
            go_roundw
            case rel => exact ⟨i + 1, V5, V6, pa.1, pb.1, pa.2.1, pb.2.1, by omega, by go_num, HH6⟩
            case measure => simp [intOf]; omega
          · have k1' : (kind == 1) = false := by rw [beq_eq_false_iff_ne]; exact k1
            by_cases k2 : kind = 2
            · subst k2
              obtain ⟨qe, q0, q1⟩ := rel_eq (wa := wa) (wb := wb) (owner := owner) hxn H2.out.eh H2.out.er
              have QE := Lib.hid qe
              have Q0 := Lib.hid q0
              have Q1 := Lib.hid q1
              obtain ⟨pa, hpa⟩ : ∃ pa, pa = relT n La wa (x : Int) owner := ⟨_, rfl⟩
              obtain ⟨pb, hpb⟩ : ∃ pb, pb = relT n Lb wb (x : Int) owner := ⟨_, rfl⟩
              have ga := releaseM_any w.heap.size Ta Ea n 512 (x : Int) owner Va wa La _ H2.out.ta hn2 ha1 ha3 ha2
              have IA := (rel_inv (ex := (x : Int)) (owner := owner) H2.out.ia).mono (Nat.le_succ i)
              have IB := (rel_inv (ex := (x : Int)) (owner := owner) H2.out.ib).mono (Nat.le_succ i)
              have lnb : (relT n Lb wb (x : Int) owner).2.2.1.length ≤ 9223372036854775807 := by
                have h7 := (rel_len (n := n) (L := Lb) (wait := wb) (x := x) (owner := owner) hxn)
                have h8 := H2.out.ib.lens _ i1
                omega
              rw [← hpa] at ga QE Q0 Q1 IA
              rw [← hpb] at QE Q0 Q1 IB lnb
              rw [QE.out] at ga
              have GA := Lib.hid ga
              have HPB := Lib.hid hpb
              have IA := Lib.hid IA
              have IB := Lib.hid IB
              obtain ⟨lst, hok⟩ : ∃ v, v = pb.2.2.1 := ⟨_, rfl⟩
              obtain ⟨erv, her⟩ : ∃ v, v = pb.2.2.2 := ⟨_, rfl⟩
              rw [← hok, ← her] at GA
              rw [← hok] at lnb
              have HOK := Lib.hid hok
              have HER := Lib.hid her
              obtain ⟨ln, hln⟩ : ∃ v, v = lst.length := ⟨_, rfl⟩
              rw [← hln] at GA lnb
              have HLN := Lib.hid hln
              clear ga qe q0 q1 hpa hpb hok her hln
              go_wp2_with fail
              refine GA.out.mono ?_
              rintro e w5 ⟨A5, c5, rfl, r5, RLO, V5, hT5, hC5, hF5⟩
              obtain ⟨tb5, dj5, bl5⟩ := H2.out.stepA hT5 hC5 hF5
              have z2 := (Blk.new wr 33 #[.int .i64 2, .bool sec, .int .i64 (x : Int), .int .i64 mode, .int .i64 owner])
              have b5 := hC5.blk z2 fun j hf => by
                rcases hf with hf | hf | ⟨j, hj, hf⟩
                · exact blk_type_ne z2 H2.out.ta.tb (by decide) hf
                · exact blk_type_ne z2 H2.out.ta.ex (by decide) hf
                · obtain ⟨_, cs, hb⟩ := (H2.out.ta.own j hj).blk hf
                  exact blk_type_ne z2 hb (by decide) rfl
              have v0 : w5.cell? ⟨wr.heap.size, 0, none⟩ = some (.int .i64 2) := b5.cell 0
              have v2 : w5.cell? ⟨wr.heap.size, 2, none⟩ = some (.int .i64 (x : Int)) := b5.cell 2
              have v4 : w5.cell? ⟨wr.heap.size, 4, none⟩ = some (.int .i64 owner) := b5.cell 4
              have gb := releaseM_any w.heap.size Tb Eb n 512 (x : Int) owner Vb wb Lb w5 tb5 hn2 hb1 hb3 hb2
              rw [← HPB.out, ← HOK.out, ← HER.out, ← HLN.out] at gb
              have GB := Lib.hid gb
              have HT5 := Lib.hid hT5
              have TB5 := Lib.hid tb5
              have DJ5 := Lib.hid dj5
              have BL5 := Lib.hid bl5
              have R5 := Lib.hid r5
              have lt5 := Lib.hid (show ∀ k, Fp Tb Eb n Vb k → ∀ ad, A5 = some ad → ad.block ≠ k from fun k hk ad e => by
                have h8 := (RLO ad e).1
                have h9 := (H2.out.tb.fpLt hk).2
                omega)
              clear GA gb hT5 hC5 hF5 tb5 dj5 bl5 z2 b5 y0 y1 y2 y3 y4 r5
              go_wp2_with fail
              refine GB.out.mono ?_
              rintro e w6 ⟨A6, c6, rfl, r6, _, V6, hT6, hC6, hF6⟩
              have H6 : Two w w6 Ta Ea Tb Eb n x (i + 1) V5 V6 pa.1 pb.1 pa.2.1 pb.2.1 := by
                refine ⟨HT5.out.keep hC6 fun k hk j hf => DJ5.out k hk hf, hT6, fun k hk hk2 => ?_, IA.out, IB.out, Q0.out, Q1.out, BL5.out.trans (hC6.below BL5.out.size fun k j hk hf => ?_)⟩
                · rcases hF6 k hk2 with h3 | h3
                  · exact DJ5.out k hk h3
                  · have := (HT5.out.fpLt hk).2; omega
                · have := (TB5.out.fpLt hf).1; omega
              have r56 : Rd encI w6 A5 lst := R5.out.keep fun ad e hl => hC6.far _ hl fun j hf => lt5.out _ hf ad e rfl
              have gs := Lib.hid (same_yes A5 A6 c5 c6 ln lst w6 HLN.out.symm lnb r56 r6)
              have HH6 := Lib.hid H6
              have e2 : (erv != erv) = false := by simp
              clear GB hT6 hC6 hF6 H6 v0 v2 v4 r56 r6
              go_wp2_with fail
              refine gs.out.mono ?_
              rintro e w7 ⟨rfl, hB7⟩
              have HH7 := Lib.hid (HH6.out.below hB7)
              clear gs hB7
              go_wp2
              go_roundw
              case rel => exact ⟨i + 1, V5, V6, pa.1, pb.1, pa.2.1, pb.2.1, by omega, by go_num, HH7⟩
              case measure => simp [intOf]; omega
            · have k2' : (kind == 2) = false := by rw [beq_eq_false_iff_ne]; exact k2
              have H3 := Lib.hid (H2.out.more (Nat.le_succ i))
              go_wp2
              go_roundw
              case rel => exact ⟨i + 1, Va, Vb, La, Lb, wa, wb, by omega, by go_num, H3⟩
              case measure => simp [intOf]; omega
        · have he' : (oe != (x : Int)) = true := by rw [bne_iff_ne]; exact he
          have gc := Lib.hid (call_any w.heap.size Ta Ea n 512 kind oe mode owner sec Va wa La _ hk3 H2.out.ta hn2 ha1 ha3 ha2)
          obtain ⟨f0, f1⟩ := call_far (n := n) (L := La) (wait := wa) (most := 512) (kind := kind) (mode := mode) (owner := owner) he
          have IA := call_inv (most := 512) (kind := kind) (ex := oe) (mode := mode) (owner := owner) H2.out.ia
          obtain ⟨pa, hpa⟩ : ∃ pa, pa = callT n La wa 512 kind oe mode owner := ⟨_, rfl⟩
          rw [← hpa] at gc f0 f1 IA
          have F0 := Lib.hid f0
          have F1 := Lib.hid f1
          have IA := Lib.hid IA
          clear hpa f0 f1
          go_wp2_with fail
          refine gc.out.mono ?_
          rintro e w5 ⟨rfl, V5, hT5, hC5, hF5⟩
          obtain ⟨tb5, dj5, bl5⟩ := H2.out.stepA hT5 hC5 hF5
          have H6 : Two w w5 Ta Ea Tb Eb n x (i + 1) V5 Vb pa.1 Lb pa.2 wb := ⟨hT5, tb5, dj5, IA.out, H2.out.ib.mono (Nat.le_succ i), by rw [F0.out]; exact H2.out.eh, by rw [F1.out]; exact H2.out.er, bl5⟩
          have HH6 := Lib.hid H6
          clear gc hT5 hC5 hF5 tb5 dj5 bl5 H6 y0 y1 y2 y3 y4
          go_wp2
          go_roundw
          case rel => exact ⟨i + 1, V5, Vb, pa.1, Lb, pa.2, wb, by omega, by go_num, HH6⟩
          case measure => simp [intOf]; omega
    · obtain rfl : i = sl := by omega
      obtain ⟨ha1, ha2, ha3, ha4⟩ := h2.out.ia.bounds hs2
      obtain ⟨hb1, hb2, hb3, hb4⟩ := h2.out.ib.bounds hs2
      obtain ⟨qe, q0, q1⟩ := acq_eq (most := 512) (mode := 2) (owner := 7) hxn h2.out.eh h2.out.er ha4 hb4
      have hheld := acq_held (owner := 7) hxn h2.out.ib.hne hb4
      have QE := Lib.hid qe
      have Q0 := Lib.hid q0
      have Q1 := Lib.hid q1
      obtain ⟨pa, hpa⟩ : ∃ pa, pa = acqT n La wa 512 (x : Int) 2 7 := ⟨_, rfl⟩
      obtain ⟨pb, hpb⟩ : ∃ pb, pb = acqT n Lb wb 512 (x : Int) 2 7 := ⟨_, rfl⟩
      have ga := acquireM_any w.heap.size Ta Ea n 512 (x : Int) 2 7 Va wa La wr h2.out.ta hn2 ha1 ha3
      have IA := acq_inv (most := 512) (ex := (x : Int)) (mode := 2) (owner := 7) h2.out.ia
      have IB := acq_inv (most := 512) (ex := (x : Int)) (mode := 2) (owner := 7) h2.out.ib
      rw [← hpa] at ga QE Q0 Q1 IA
      rw [← hpb] at QE Q0 Q1 IB hheld
      rw [QE.out] at ga
      have GA := Lib.hid ga
      have HPB := Lib.hid hpb
      have IA := Lib.hid IA
      have IB := Lib.hid IB
      have HELD := Lib.hid hheld
      obtain ⟨okv, hok⟩ : ∃ v, v = pb.2.2.1 := ⟨_, rfl⟩
      obtain ⟨erv, her⟩ : ∃ v, v = pb.2.2.2 := ⟨_, rfl⟩
      rw [← hok, ← her] at GA
      have HOK := Lib.hid hok
      have HER := Lib.hid her
      clear ga qe q0 q1 hpa hpb hok her hheld ha4 hb4
      go_wp2_with fail
      refine GA.out.mono ?_
      rintro e w5 ⟨rfl, V5, hT5, hC5, hF5⟩
      obtain ⟨tb5, dj5, bl5⟩ := h2.out.stepA hT5 hC5 hF5
      have gb := acquireM_any w.heap.size Tb Eb n 512 (x : Int) 2 7 Vb wb Lb w5 tb5 hn2 hb1 hb3
      rw [← HPB.out, ← HOK.out, ← HER.out] at gb
      have GB := Lib.hid gb
      have HT5 := Lib.hid hT5
      have TB5 := Lib.hid tb5
      have DJ5 := Lib.hid dj5
      have BL5 := Lib.hid bl5
      clear GA gb hT5 hC5 hF5 tb5 dj5 bl5
      go_wp2_with fail
      refine GB.out.mono ?_
      rintro e w6 ⟨rfl, V6, hT6, hC6, hF6⟩
      have H6 : Two w w6 Ta Ea Tb Eb n x (i + 1) V5 V6 pa.1 pb.1 pa.2.1 pb.2.1 := by
        refine ⟨HT5.out.keep hC6 fun k hk j hf => DJ5.out k hk hf, hT6, fun k hk hk2 => ?_, IA.out, IB.out, Q0.out, Q1.out, BL5.out.trans (hC6.below BL5.out.size fun k j hk hf => ?_)⟩
        · rcases hF6 k hk2 with h3 | h3
          · exact DJ5.out k hk h3
          · have := (HT5.out.fpLt hk).2; omega
        · have := (TB5.out.fpLt hf).1; omega
      have HH6 := Lib.hid H6
      have la := Lib.hid (show ∀ j, j < 2 * n → (pa.1 j).length ≤ 4000000000000 from fun j hj => by have := IA.out.lens j hj; omega)
      have lb := Lib.hid (show ∀ j, j < 2 * n → (pb.1 j).length ≤ 4000000000000 from fun j hj => by have := IB.out.lens j hj; omega)
      have wa2 : 0 ≤ pa.2.1 ∧ pa.2.1 ≤ 1000000 := by have := IA.out.waits; omega
      have wb2 : 0 ≤ pb.2.1 ∧ pb.2.1 ≤ 1000000 := by have := IB.out.waits; omega
      have hbl : (pb.1 (x * 2)).length ≤ 1000000 := by have := IB.out.lens _ i0; omega
      have hbr : (pb.1 (x * 2 + 1)).length ≤ 1000000 := by have := IB.out.lens _ i1; omega
      obtain ⟨ho, hho⟩ : ∃ v, v = (pb.1 (x * 2)).map (·.1) := ⟨_, rfl⟩
      obtain ⟨wt, hwt⟩ : ∃ v, v = (pb.1 (x * 2 + 1)).map (·.1) := ⟨_, rfl⟩
      obtain ⟨md, hmd⟩ : ∃ v, v = modeOf (pb.1 (x * 2)) 0 := ⟨_, rfl⟩
      have lB0 : listT n pb.1 (x : Int) 0 = (ho, md, 0) := by
        unfold listT
        rw [if_neg (show ¬ ¬ (0 ≤ (x : Int) ∧ (x : Int) < (n : Int)) by omega), if_neg (by decide), Int.toNat_natCast, hho, hmd]
      have lA0 : listT n pa.1 (x : Int) 0 = (ho, md, 0) := by
        unfold listT
        rw [if_neg (show ¬ ¬ (0 ≤ (x : Int) ∧ (x : Int) < (n : Int)) by omega), if_neg (by decide), Int.toNat_natCast, Q0.out, hho, hmd]
      have lB1 : listT n pb.1 (x : Int) 1 = (wt, 1, 0) := by
        unfold listT
        rw [if_neg (show ¬ ¬ (0 ≤ (x : Int) ∧ (x : Int) < (n : Int)) by omega), if_pos rfl, Int.toNat_natCast, hwt]
      have lA1 : listT n pa.1 (x : Int) 1 = (wt, 1, 0) := by
        unfold listT
        rw [if_neg (show ¬ ¬ (0 ≤ (x : Int) ∧ (x : Int) < (n : Int)) by omega), if_pos rfl, Int.toNat_natCast, Q1.out, hwt]
      have LA0 := Lib.hid lA0
      have LA1 := Lib.hid lA1
      have LB0 := Lib.hid lB0
      have LB1 := Lib.hid lB1
      obtain ⟨hl, hhl⟩ : ∃ v, v = ho.length := ⟨_, rfl⟩
      obtain ⟨wl, hwl⟩ : ∃ v, v = wt.length := ⟨_, rfl⟩
      have hl0 : 0 < hl := by rw [hhl, hho, List.length_map]; exact List.length_pos_iff.2 HELD.out
      have hl1 : (0 : Int) < (hl : Int) := by omega
      have hlm : hl ≤ 1000000 := by rw [hhl, hho, List.length_map]; exact hbl
      have wlm : wl ≤ 1000000 := by rw [hwl, hwt, List.length_map]; exact hbr
      have HHL := Lib.hid hhl
      have HWL := Lib.hid hwl
      clear GB hT6 hC6 hF6 H6 lA0 lA1 lB0 lB1 hho hwt hmd hhl hwl hbl hbr HT5 TB5 DJ5 BL5 h2
      have gl := holdersM_any w.heap.size Ta Ea n 512 (x : Int) V5 pa.2.1 pa.1 w6 HH6.out.ta hn2 la.out wa2
      rw [LA0.out] at gl
      rw [show (ho, md, (0 : Int)).1.length = hl from HHL.out.symm] at gl
      have GL := Lib.hid gl
      clear gl
      go_wp2_with fail
      refine GL.out.mono ?_
      rintro e wA ⟨A1, c1, rfl, r1, b1, V7, hT, hC, hF⟩
      obtain ⟨tq, dj, bl⟩ := HH6.out.stepA hT hC hF
      have HHA := Lib.hid (show Two w wA Ta Ea Tb Eb n x (i + 1) V7 V6 pa.1 pb.1 pa.2.1 pb.2.1 from ⟨hT, tq, dj, IA.out, IB.out, Q0.out, Q1.out, bl⟩)
      have K1 := Lib.hid (show KeptL wA A1 ho from ⟨r1, fun ad e => (b1 ad e).2⟩)
      clear GL hT hC hF tq dj bl r1 b1
      have gl := holdersM_any w.heap.size Tb Eb n 512 (x : Int) V6 pb.2.1 pb.1 wA HHA.out.tb hn2 lb.out wb2
      rw [LB0.out] at gl
      rw [show (ho, md, (0 : Int)).1.length = hl from HHL.out.symm] at gl
      have GL := Lib.hid gl
      clear gl
      go_wp2_with fail
      refine GL.out.mono ?_
      rintro e wB ⟨A2, c2, rfl, r2, b2, V8, hT, hC, hF⟩
      obtain ⟨tq, dj, bl⟩ := HHA.out.stepB hT hC hF
      have HHB := Lib.hid (show Two w wB Ta Ea Tb Eb n x (i + 1) V7 V8 pa.1 pb.1 pa.2.1 pb.2.1 from ⟨tq, hT, dj, IA.out, IB.out, Q0.out, Q1.out, bl⟩)
      have K2 := Lib.hid (show KeptL wB A2 ho from ⟨r2, fun ad e => (b2 ad e).2⟩)
      have K1b := Lib.hid (K1.out.keep HHA.out.tb hC)
      clear GL hT hC hF tq dj bl r2 b2
      have gl := waitersM_any w.heap.size Ta Ea n 512 (x : Int) V7 pa.2.1 pa.1 wB HHB.out.ta hn2 la.out wa2
      rw [LA1.out] at gl
      rw [show (wt, (1 : Int), (0 : Int)).1.length = wl from HWL.out.symm] at gl
      have GL := Lib.hid gl
      clear gl
      go_wp2_with fail
      refine GL.out.mono ?_
      rintro e wC ⟨A3, c3, rfl, r3, b3, V9, hT, hC, hF⟩
      obtain ⟨tq, dj, bl⟩ := HHB.out.stepA hT hC hF
      have HHC := Lib.hid (show Two w wC Ta Ea Tb Eb n x (i + 1) V9 V8 pa.1 pb.1 pa.2.1 pb.2.1 from ⟨hT, tq, dj, IA.out, IB.out, Q0.out, Q1.out, bl⟩)
      have K3 := Lib.hid (show KeptL wC A3 wt from ⟨r3, fun ad e => (b3 ad e).2⟩)
      have K1c := Lib.hid (K1b.out.keep HHB.out.ta hC)
      have K2c := Lib.hid (K2.out.keep HHB.out.ta hC)
      clear GL hT hC hF tq dj bl r3 b3
      have gl := waitersM_any w.heap.size Tb Eb n 512 (x : Int) V8 pb.2.1 pb.1 wC HHC.out.tb hn2 lb.out wb2
      rw [LB1.out] at gl
      rw [show (wt, (1 : Int), (0 : Int)).1.length = wl from HWL.out.symm] at gl
      have GL := Lib.hid gl
      clear gl
      go_wp2_with fail
      refine GL.out.mono ?_
      rintro e wD ⟨A4, c4, rfl, r4, b4, VX, hT, hC, hF⟩
      obtain ⟨tq, dj, bl⟩ := HHC.out.stepB hT hC hF
      have HHD := Lib.hid (show Two w wD Ta Ea Tb Eb n x (i + 1) V9 VX pa.1 pb.1 pa.2.1 pb.2.1 from ⟨tq, hT, dj, IA.out, IB.out, Q0.out, Q1.out, bl⟩)
      have K4 := Lib.hid (show KeptL wD A4 wt from ⟨r4, fun ad e => (b4 ad e).2⟩)
      have K1d := Lib.hid (K1c.out.keep HHC.out.tb hC)
      have K2d := Lib.hid (K2c.out.keep HHC.out.tb hC)
      have K3d := Lib.hid (K3.out.keep HHC.out.tb hC)
      clear GL hT hC hF tq dj bl r4 b4
      have R1D := Lib.hid K1d.out.1
      have R2D := Lib.hid K2d.out.1
      have R3D := Lib.hid K3d.out.1
      have R4D := Lib.hid K4.out.1
      have r1d := Lib.hid (same_yes A1 A2 c1 c2 hl ho wD HHL.out.symm (by omega) R1D.out R2D.out)
      clear R1D R2D
      go_wp2_with fail
      refine (num_any 0 wD).mono ?_
      rintro e w' ⟨rfl, rfl⟩
      go_wp2_with fail
      refine (num_any 0 wD).mono ?_
      rintro e w' ⟨rfl, rfl⟩
      go_wp2_with fail
      refine r1d.out.mono ?_
      rintro e wE ⟨rfl, hBE⟩
      have gs := Lib.hid (same_yes A3 A4 c3 c4 wl wt wE HWL.out.symm (by omega) (R3D.out.below hBE) (R4D.out.below hBE))
      have BE := Lib.hid (HHD.out.bel.trans (hBE.mono HHD.out.bel.size))
      clear r1d hBE R3D R4D
      go_wp2_with fail
      refine gs.out.mono ?_
      rintro e wF ⟨rfl, hBF⟩
      have BF := Lib.hid (BE.out.trans (hBF.mono BE.out.size))
      clear gs hBF
      go_wp2
      go_ret
      exact ⟨rfl, BF.out⟩
theorem apart_row (a b : Int) (A : Option Addr) (cap : Nat) (ops : List O5) (ex : Int) (w : World) (hsm : ops.length ≤ 9223372036854775807) (hr : RdS encO5 5 w A ops) (_wf : (Lit.int .i64 ex).wf = true) :
    Calls Try.prog 5 #[.agg #[.int .i64 a, .int .i64 b], .slice A ops.length cap, .int .i64 ex] w fun e w' => e = .returned (.bool true) ∧ Below w.heap.size w w' :=
  apart_any a b ex A cap ops.length ops w rfl hsm hr
end Go.Proofs.Ytkjbjfjgnponfaa
