/- WalkRound: a walk that is made gives every set bit just once, in the walk's order. -/
import Derived.Test.YtdhccjmokmdboaaDoorWkI
namespace Go.Proofs.YtdhccjmokmdboaaDoor
open Go.RowKit
set_option linter.unusedVariables false
set_option linter.unusedSimpArgs false
section
variable {A : Option Addr} {c L : Nat} {ws : List Nat} {w : World}
set_option maxRecDepth 20000 in
set_option maxHeartbeats 8000000 in
theorem round_yes (nn ss : Nat) (HL : Hid (L = ws.length)) (HZ : Hid (ws.length ≤ 9223372036854775807)) (HB : Hid (∀ x ∈ ws, x < 18446744073709551616)) (HR : Hid (Rd encU w A ws)) (HT : Hid (TabW w)) (HTl : Hid (0 < w.heap.size)) (hLb : L ≤ 17592186044416) (HN : Hid (newE (nn : Int) (ss : Int) ws = 0))
    (a1 : 1 ≤ (nn : Int)) (a2 : (nn : Int) ≤ 65536) (a4 : (ss : Int) ≤ (nn : Int)) (HOK : Hid (okW nn ws)) : Rnd (nn : Int) (ss : Int) A c L w := by
  unfold Rnd
  have OW := Lib.hid (own13_any A c ws (by have := HL.out; omega) w HR.out)
  rw [← HL.out] at OW
  have a3 : 0 ≤ (ss : Int) := by omega
  have hw : IntKind.i64.wrap ((nn : Int) + 63) = (nn : Int) + 63 := i64_in_ _ (by omega)
  have hq : ((nn : Int) + 63).tdiv 64 = ((nn : Int) + 63) / 64 := Int.tdiv_eq_ediv_of_nonneg (by omega)
  have hm2 : (nn : Int).tmod 64 = (nn : Int) % 64 := Int.tmod_eq_emod_of_nonneg (by omega)
  have hlen := HOK.out.1
  have h5' : ((L : Int) == ((nn : Int) + 63) / 64) = true := by rw [beq_iff_eq, HL.out]; omega
  by_cases hm : nn % 64 = 0
  · have hm3 : ((nn : Int) % 64 != 0) = false := by simp; omega
    clear hm hm2 hlen
    go_enter Tryd.func3, Tryd.ntmps3
    go_wp2_with (first | (go_at_call 8; (with_reducible refine OW.out.mono ?_); rintro e w1 ⟨A1, c1, rfl, hown, B1⟩; have HB1 := Lib.hid B1; have NW0 := wnew_any (A := A1) (c := c1) (nn : Int) (ss : Int) HZ.out HB.out (own13_rd (by rw [← HL.out]; exact hown)) (HT.out.below B1 HTl.out); rw [← HL.out] at NW0; have NW := Lib.hid NW0; clear hown B1 NW0) | (go_at_call 7; (with_reducible refine NW.out.mono ?_); rintro e w2 hnew; obtain ⟨h0, _⟩ | ⟨_, _, K, A2, c2, rfl, hK, B2, hKl, hfr⟩ := hnew; exact absurd HN.out h0; simp only [Int.toNat_natCast] at hK; have HB2 := Lib.hid (HB1.out.trans (B2.mono HB1.out.size)); have HK2 := Lib.hid hK; have HKl := Lib.hid (Nat.le_trans HB1.out.size hKl); clear B2 hK hKl hfr) | (go_at_call 9; (with_reducible refine (num13_any _ _).mono ?_); rintro e w' ⟨rfl, rfl⟩))
    go_loopw [10, 11] (fun t10 t11 wr => ∃ i : Nat, i ≤ nn ∧ t11 = .int .i64 (i : Int) ∧ t10 = .int .i64 (((setsL ws i).length : Nat) : Int) ∧ wr = w2) (fun _ t11 _ => nn - (intOf t11).toNat)
    case atStart => exact ⟨0, Nat.zero_le _, rfl, rfl, rfl⟩
    case round =>
      obtain ⟨i, hi, rfl, rfl, rfl⟩ := hrel
      by_cases hlt : i < nn
      · have hlt' : (i : Int) < (nn : Int) := by omega
        obtain ⟨t, ht⟩ : ∃ t, t = (setsL ws i).length := ⟨_, rfl⟩
        have htb : t ≤ 65536 := by have := setsL_len ws i; omega
        have SE0 := set13_any A c ws i (by have := HOK.out.1; omega) (by omega) HB.out _ (HR.out.below HB2.out)
        rw [← HL.out] at SE0
        have hsu := setsL_succ ws i
        cases hb : bitW ws i with
        | true =>
          rw [hb] at SE0
          have SE := Lib.hid SE0
          have HS := Lib.hid (show (setsL ws (i + 1)).length = t + 1 by rw [hsu, hb, ht]; simp)
          rw [← ht]
          clear SE0 hsu hb ht
          go_wp2_with (first | (go_at_call 10; (with_reducible refine SE.out.mono ?_); rintro e w' ⟨rfl, rfl⟩))
          go_roundw
          case rel => exact ⟨i + 1, by omega, by go_num, by rw [HS.out]; go_num, by first | rfl | trivial⟩
          case measure => simp [intOf]; omega
        | false =>
          rw [hb] at SE0
          have SE := Lib.hid SE0
          have HS := Lib.hid (show (setsL ws (i + 1)).length = t by rw [hsu, hb, ht]; simp)
          rw [← ht]
          clear SE0 hsu hb ht
          go_wp2_with (first | (go_at_call 10; (with_reducible refine SE.out.mono ?_); rintro e w' ⟨rfl, rfl⟩))
          go_roundw
          case rel => exact ⟨i + 1, by omega, by go_num, by rw [HS.out], by first | rfl | trivial⟩
          case measure => simp [intOf]; omega
      · obtain rfl : i = nn := by omega
        obtain ⟨bits, hbits⟩ : ∃ bits, bits = walkL ws i ss := ⟨_, rfl⟩
        have hbl := walkL_len ws i ss
        rw [← hbits] at hbl
        obtain ⟨T, hT⟩ : ∃ T, T = bits.length := ⟨_, rfl⟩
        rw [← hbl, ← hT]
        have hTb : T ≤ 65536 := by have := setsL_len ws i; omega
        rw [← hbits] at HK2
        have HM := Lib.hid (show ∀ b, b ∈ bits → b < i ∧ bitW ws b = true from fun b hb => by rw [hbits] at hb; exact mem_walkL.1 hb)
        have HA0 := Lib.hid (show AtR ss (bits.drop 0) false (-1) from by rw [hbits]; exact AtR.start ws i ss)
        have HT0 := Lib.hid hT
        clear hT hbl hbits
        go_wp2
        go_loopw [12, 13, 14] (fun t12 t13 t14 wr => ∃ (k : Nat) (last : Int) (wrap : Bool) (A3 : Option Addr) (c3 : Nat), k ≤ T ∧ t14 = .int .i64 (k : Int) ∧ t12 = .int .i64 last ∧ t13 = .bool wrap ∧ Hid (AtR ss (bits.drop k) wrap last) ∧ Hid (WkIn wr K (bits.drop k) A3 c3) ∧ Hid (Below w.heap.size w wr)) (fun _ _ t14 _ => T - (intOf t14).toNat)
        case atStart => exact ⟨0, _, _, _, _, Nat.zero_le _, rfl, rfl, rfl, HA0, HK2, HB2⟩
        case round =>
          obtain ⟨k, last, wrap, A3, c3, hk, rfl, rfl, rfl, hAt, hWk, hBel⟩ := hrel
          clear HB2 HK2 HA0
          by_cases hkt : k < T
          · have hkt' : (k : Int) < (T : Int) := by omega
            obtain ⟨b, hbk⟩ : ∃ b, bits[k]? = some b := ⟨_, List.getElem?_eq_getElem (by rw [← HT0.out]; exact hkt)⟩
            have hdr : bits.drop k = b :: bits.drop (k + 1) := by
              have h1 := (List.getElem?_eq_some_iff.1 hbk)
              obtain ⟨h2, h3⟩ := h1
              rw [List.drop_eq_getElem_cons h2, h3]
            have hm := HM.out b (List.mem_of_getElem? hbk)
            have LE0 := wleft_any hWk.out
            have NX0 := wnext_any hWk.out
            rw [show (bits.drop k).length = T - k by rw [List.length_drop, ← HT0.out]] at LE0
            rw [hdr] at NX0 hAt
            simp only [nxV] at NX0
            have LE := Lib.hid LE0
            have NX := Lib.hid NX0
            have hAt2 := Lib.hid hAt.out.step
            have hA1 := hAt.out.2 b (List.mem_cons_self ..)
            have hbn : b < i := hm.1
            have hb0 : ¬ (b : Int) < 0 := by omega
            have hbn' : ¬ (i : Int) ≤ (b : Int) := by omega
            have SE0 := fun (W : World) (h : Rd encU W A ws) => set13_any A c ws b (by have := HOK.out.1; omega) (by omega) HB.out W h
            rw [← HL.out, hm.2] at SE0
            have SE := Lib.hid SE0
            have hsub : IntKind.i64.wrap ((T : Int) - (k : Int)) = ((T - k : Nat) : Int) := by rw [i64_in_ _ (by omega)]; omega
            clear LE0 NX0 SE0 hdr hbk hm hAt
            by_cases hbs : b < ss
            · have hbs' : (b : Int) < (ss : Int) := by omega
              have hbs2 : ¬ (ss : Int) ≤ (b : Int) := by omega
              rw [show (wrap || decide (b < ss)) = true by simp [hbs]] at hAt2
              cases wrap with
              | true =>
                have hla : ¬ (b : Int) ≤ last := by have := (hA1.1 rfl).2; omega
                clear hA1 hbs
                go_wp2_with (first | (go_at_call 11; (with_reducible refine LE.out.mono ?_); rintro e w' ⟨rfl, rfl⟩) | (go_at_call 12; (with_reducible refine NX.out.mono ?_); rintro e w3 ⟨rfl, A4, c4, hw4, hc4, _⟩; have HB4 := Lib.hid (hBel.out.trans (hc4.below hBel.out.size fun j i hj hle => by have := HKl.out; omega)); have HW4 := Lib.hid hw4; clear hw4 hc4) | (go_at_call 10; (with_reducible refine (SE.out _ (HR.out.below HB4.out)).mono ?_); rintro e w' ⟨rfl, rfl⟩) | (go_at_call 9; (with_reducible refine (num13_any _ _).mono ?_); rintro e w' ⟨rfl, rfl⟩))
                go_roundw
                case rel => exact ⟨k + 1, (b : Int), _, A4, c4, by omega, by go_num, rfl, rfl, hAt2, HW4, HB4⟩
                case measure => simp [intOf]; omega
              | false =>
                have hla : ¬ (b : Int) ≤ -1 := by omega
                clear hA1 hbs
                go_wp2_with (first | (go_at_call 11; (with_reducible refine LE.out.mono ?_); rintro e w' ⟨rfl, rfl⟩) | (go_at_call 12; (with_reducible refine NX.out.mono ?_); rintro e w3 ⟨rfl, A4, c4, hw4, hc4, _⟩; have HB4 := Lib.hid (hBel.out.trans (hc4.below hBel.out.size fun j i hj hle => by have := HKl.out; omega)); have HW4 := Lib.hid hw4; clear hw4 hc4) | (go_at_call 10; (with_reducible refine (SE.out _ (HR.out.below HB4.out)).mono ?_); rintro e w' ⟨rfl, rfl⟩) | (go_at_call 9; (with_reducible refine (num13_any _ _).mono ?_); rintro e w' ⟨rfl, rfl⟩))
                go_roundw
                case rel => exact ⟨k + 1, (b : Int), _, A4, c4, by omega, by go_num, rfl, rfl, hAt2, HW4, HB4⟩
                case measure => simp [intOf]; omega
            · have hbs' : ¬ (b : Int) < (ss : Int) := by omega
              have hbs2 : (ss : Int) ≤ (b : Int) := by omega
              cases wrap with
              | true => exact absurd (hA1.1 rfl).1 hbs
              | false =>
                rw [show (false || decide (b < ss)) = false by simp [hbs]] at hAt2
                have hla : ¬ (b : Int) ≤ last := by rcases hA1.2 rfl with h | h <;> omega
                clear hA1 hbs
                go_wp2_with (first | (go_at_call 11; (with_reducible refine LE.out.mono ?_); rintro e w' ⟨rfl, rfl⟩) | (go_at_call 12; (with_reducible refine NX.out.mono ?_); rintro e w3 ⟨rfl, A4, c4, hw4, hc4, _⟩; have HB4 := Lib.hid (hBel.out.trans (hc4.below hBel.out.size fun j i hj hle => by have := HKl.out; omega)); have HW4 := Lib.hid hw4; clear hw4 hc4) | (go_at_call 10; (with_reducible refine (SE.out _ (HR.out.below HB4.out)).mono ?_); rintro e w' ⟨rfl, rfl⟩) | (go_at_call 9; (with_reducible refine (num13_any _ _).mono ?_); rintro e w' ⟨rfl, rfl⟩))
                go_roundw
                case rel => exact ⟨k + 1, (b : Int), _, A4, c4, by omega, by go_num, rfl, rfl, hAt2, HW4, HB4⟩
                case measure => simp [intOf]; omega
          · obtain rfl : k = T := by omega
            have hdr : bits.drop k = [] := by rw [HT0.out, List.drop_length]
            rw [hdr] at hWk
            have NX0 := wnext_any hWk.out
            simp only [nxV] at NX0
            have NX := Lib.hid NX0
            clear hdr NX0
            go_wp2_with (first | (go_at_call 12; (with_reducible refine NX.out.mono ?_); rintro e w3 ⟨rfl, A4, c4, hw4, hc4, _⟩; have HB4 := Lib.hid (hBel.out.trans (hc4.below hBel.out.size fun j i hj hle => by have := HKl.out; omega)); have LE4 := Lib.hid (wleft_any hw4); clear hw4 hc4) | (go_at_call 11; (with_reducible refine LE4.out.mono ?_); rintro e w' ⟨rfl, rfl⟩) | (go_at_call 9; (with_reducible refine (num13_any _ _).mono ?_); rintro e w' ⟨rfl, rfl⟩))
            go_ret
            exact ⟨rfl, HB4.out⟩
  · have hm3 : ((nn : Int) % 64 != 0) = true := by rw [bne_iff_ne]; omega
    obtain ⟨ad, x, hA, hx, hc⟩ := HR.out.at_ (k := ws.length - 1) (by omega)
    have hx2 : ws.getD (ws.length - 1) 0 = x := by rw [List.getD_eq_getElem?_getD, hx]; rfl
    have hl := (last_word hlen hm HB.out).2 HOK.out.2.2
    rw [hx2] at hl
    have hcast : (x : Int) / 2 ^ (nn % 64) = ((x / 2 ^ (nn % 64) : Nat) : Int) := by rw [Int.natCast_ediv, Int.natCast_pow]; rfl
    have hz : ((x : Int) / 2 ^ (nn % 64) != 0) = false := by rw [hcast, hl]; rfl
    have hL1 : 1 ≤ L := by have := HL.out; omega
    have hs1 : IntKind.i64.wrap ((L : Int) - 1) = ((L - 1 : Nat) : Int) := by rw [i64_in_ _ (by omega)]; omega
    have HX := Lib.hid hx
    subst hA
    clear hm hm2 hlen hc hx hx2 hl hcast
    go_enter Tryd.func3, Tryd.ntmps3
    go_wp2_with (first | (go_at_call 8; (with_reducible refine OW.out.mono ?_); rintro e w1 ⟨A1, c1, rfl, hown, B1⟩; have HB1 := Lib.hid B1; have NW0 := wnew_any (A := A1) (c := c1) (nn : Int) (ss : Int) HZ.out HB.out (own13_rd (by rw [← HL.out]; exact hown)) (HT.out.below B1 HTl.out); rw [← HL.out] at NW0; have NW := Lib.hid NW0; clear hown B1 NW0) | (go_at_call 7; (with_reducible refine NW.out.mono ?_); rintro e w2 hnew; obtain ⟨h0, _⟩ | ⟨_, _, K, A2, c2, rfl, hK, B2, hKl, hfr⟩ := hnew; exact absurd HN.out h0; simp only [Int.toNat_natCast] at hK; have HB2 := Lib.hid (HB1.out.trans (B2.mono HB1.out.size)); have HK2 := Lib.hid hK; have HKl := Lib.hid (Nat.le_trans HB1.out.size hKl); clear B2 hK hKl hfr; obtain ⟨ad', x', e1, hx', hc1⟩ := (HR.out.below HB2.out).at_ (k := ws.length - 1) (by have := HL.out; omega); cases e1; obtain rfl := Option.some.inj (hx'.symm.trans HX.out); rw [← HL.out] at hc1) | (go_at_call 9; (with_reducible refine (num13_any _ _).mono ?_); rintro e w' ⟨rfl, rfl⟩))
    go_loopw [10, 11] (fun t10 t11 wr => ∃ i : Nat, i ≤ nn ∧ t11 = .int .i64 (i : Int) ∧ t10 = .int .i64 (((setsL ws i).length : Nat) : Int) ∧ wr = w2) (fun _ t11 _ => nn - (intOf t11).toNat)
    case atStart => exact ⟨0, Nat.zero_le _, rfl, rfl, rfl⟩
    case round =>
      obtain ⟨i, hi, rfl, rfl, rfl⟩ := hrel
      by_cases hlt : i < nn
      · have hlt' : (i : Int) < (nn : Int) := by omega
        obtain ⟨t, ht⟩ : ∃ t, t = (setsL ws i).length := ⟨_, rfl⟩
        have htb : t ≤ 65536 := by have := setsL_len ws i; omega
        have SE0 := set13_any (some ad) c ws i (by have := HOK.out.1; omega) (by omega) HB.out _ (HR.out.below HB2.out)
        rw [← HL.out] at SE0
        have hsu := setsL_succ ws i
        cases hb : bitW ws i with
        | true =>
          rw [hb] at SE0
          have SE := Lib.hid SE0
          have HS := Lib.hid (show (setsL ws (i + 1)).length = t + 1 by rw [hsu, hb, ht]; simp)
          rw [← ht]
          clear SE0 hsu hb ht
          go_wp2_with (first | (go_at_call 10; (with_reducible refine SE.out.mono ?_); rintro e w' ⟨rfl, rfl⟩))
          go_roundw
          case rel => exact ⟨i + 1, by omega, by go_num, by rw [HS.out]; go_num, by first | rfl | trivial⟩
          case measure => simp [intOf]; omega
        | false =>
          rw [hb] at SE0
          have SE := Lib.hid SE0
          have HS := Lib.hid (show (setsL ws (i + 1)).length = t by rw [hsu, hb, ht]; simp)
          rw [← ht]
          clear SE0 hsu hb ht
          go_wp2_with (first | (go_at_call 10; (with_reducible refine SE.out.mono ?_); rintro e w' ⟨rfl, rfl⟩))
          go_roundw
          case rel => exact ⟨i + 1, by omega, by go_num, by rw [HS.out], by first | rfl | trivial⟩
          case measure => simp [intOf]; omega
      · obtain rfl : i = nn := by omega
        obtain ⟨bits, hbits⟩ : ∃ bits, bits = walkL ws i ss := ⟨_, rfl⟩
        have hbl := walkL_len ws i ss
        rw [← hbits] at hbl
        obtain ⟨T, hT⟩ : ∃ T, T = bits.length := ⟨_, rfl⟩
        rw [← hbl, ← hT]
        have hTb : T ≤ 65536 := by have := setsL_len ws i; omega
        rw [← hbits] at HK2
        have HM := Lib.hid (show ∀ b, b ∈ bits → b < i ∧ bitW ws b = true from fun b hb => by rw [hbits] at hb; exact mem_walkL.1 hb)
        have HA0 := Lib.hid (show AtR ss (bits.drop 0) false (-1) from by rw [hbits]; exact AtR.start ws i ss)
        have HT0 := Lib.hid hT
        clear hT hbl hbits
        go_wp2
        go_loopw [12, 13, 14] (fun t12 t13 t14 wr => ∃ (k : Nat) (last : Int) (wrap : Bool) (A3 : Option Addr) (c3 : Nat), k ≤ T ∧ t14 = .int .i64 (k : Int) ∧ t12 = .int .i64 last ∧ t13 = .bool wrap ∧ Hid (AtR ss (bits.drop k) wrap last) ∧ Hid (WkIn wr K (bits.drop k) A3 c3) ∧ Hid (Below w.heap.size w wr)) (fun _ _ t14 _ => T - (intOf t14).toNat)
        case atStart => exact ⟨0, _, _, _, _, Nat.zero_le _, rfl, rfl, rfl, HA0, HK2, HB2⟩
        case round =>
          obtain ⟨k, last, wrap, A3, c3, hk, rfl, rfl, rfl, hAt, hWk, hBel⟩ := hrel
          clear HB2 HK2 HA0
          by_cases hkt : k < T
          · have hkt' : (k : Int) < (T : Int) := by omega
            obtain ⟨b, hbk⟩ : ∃ b, bits[k]? = some b := ⟨_, List.getElem?_eq_getElem (by rw [← HT0.out]; exact hkt)⟩
            have hdr : bits.drop k = b :: bits.drop (k + 1) := by
              have h1 := (List.getElem?_eq_some_iff.1 hbk)
              obtain ⟨h2, h3⟩ := h1
              rw [List.drop_eq_getElem_cons h2, h3]
            have hm := HM.out b (List.mem_of_getElem? hbk)
            have LE0 := wleft_any hWk.out
            have NX0 := wnext_any hWk.out
            rw [show (bits.drop k).length = T - k by rw [List.length_drop, ← HT0.out]] at LE0
            rw [hdr] at NX0 hAt
            simp only [nxV] at NX0
            have LE := Lib.hid LE0
            have NX := Lib.hid NX0
            have hAt2 := Lib.hid hAt.out.step
            have hA1 := hAt.out.2 b (List.mem_cons_self ..)
            have hbn : b < i := hm.1
            have hb0 : ¬ (b : Int) < 0 := by omega
            have hbn' : ¬ (i : Int) ≤ (b : Int) := by omega
            have SE0 := fun (W : World) (h : Rd encU W (some ad) ws) => set13_any (some ad) c ws b (by have := HOK.out.1; omega) (by omega) HB.out W h
            rw [← HL.out, hm.2] at SE0
            have SE := Lib.hid SE0
            have hsub : IntKind.i64.wrap ((T : Int) - (k : Int)) = ((T - k : Nat) : Int) := by rw [i64_in_ _ (by omega)]; omega
            clear LE0 NX0 SE0 hdr hbk hm hAt
            by_cases hbs : b < ss
            · have hbs' : (b : Int) < (ss : Int) := by omega
              have hbs2 : ¬ (ss : Int) ≤ (b : Int) := by omega
              rw [show (wrap || decide (b < ss)) = true by simp [hbs]] at hAt2
              cases wrap with
              | true =>
                have hla : ¬ (b : Int) ≤ last := by have := (hA1.1 rfl).2; omega
                clear hA1 hbs
                go_wp2_with (first | (go_at_call 11; (with_reducible refine LE.out.mono ?_); rintro e w' ⟨rfl, rfl⟩) | (go_at_call 12; (with_reducible refine NX.out.mono ?_); rintro e w3 ⟨rfl, A4, c4, hw4, hc4, _⟩; have HB4 := Lib.hid (hBel.out.trans (hc4.below hBel.out.size fun j i hj hle => by have := HKl.out; omega)); have HW4 := Lib.hid hw4; clear hw4 hc4) | (go_at_call 10; (with_reducible refine (SE.out _ (HR.out.below HB4.out)).mono ?_); rintro e w' ⟨rfl, rfl⟩) | (go_at_call 9; (with_reducible refine (num13_any _ _).mono ?_); rintro e w' ⟨rfl, rfl⟩))
                go_roundw
                case rel => exact ⟨k + 1, (b : Int), _, A4, c4, by omega, by go_num, rfl, rfl, hAt2, HW4, HB4⟩
                case measure => simp [intOf]; omega
              | false =>
                have hla : ¬ (b : Int) ≤ -1 := by omega
                clear hA1 hbs
                go_wp2_with (first | (go_at_call 11; (with_reducible refine LE.out.mono ?_); rintro e w' ⟨rfl, rfl⟩) | (go_at_call 12; (with_reducible refine NX.out.mono ?_); rintro e w3 ⟨rfl, A4, c4, hw4, hc4, _⟩; have HB4 := Lib.hid (hBel.out.trans (hc4.below hBel.out.size fun j i hj hle => by have := HKl.out; omega)); have HW4 := Lib.hid hw4; clear hw4 hc4) | (go_at_call 10; (with_reducible refine (SE.out _ (HR.out.below HB4.out)).mono ?_); rintro e w' ⟨rfl, rfl⟩) | (go_at_call 9; (with_reducible refine (num13_any _ _).mono ?_); rintro e w' ⟨rfl, rfl⟩))
                go_roundw
                case rel => exact ⟨k + 1, (b : Int), _, A4, c4, by omega, by go_num, rfl, rfl, hAt2, HW4, HB4⟩
                case measure => simp [intOf]; omega
            · have hbs' : ¬ (b : Int) < (ss : Int) := by omega
              have hbs2 : (ss : Int) ≤ (b : Int) := by omega
              cases wrap with
              | true => exact absurd (hA1.1 rfl).1 hbs
              | false =>
                rw [show (false || decide (b < ss)) = false by simp [hbs]] at hAt2
                have hla : ¬ (b : Int) ≤ last := by rcases hA1.2 rfl with h | h <;> omega
                clear hA1 hbs
                go_wp2_with (first | (go_at_call 11; (with_reducible refine LE.out.mono ?_); rintro e w' ⟨rfl, rfl⟩) | (go_at_call 12; (with_reducible refine NX.out.mono ?_); rintro e w3 ⟨rfl, A4, c4, hw4, hc4, _⟩; have HB4 := Lib.hid (hBel.out.trans (hc4.below hBel.out.size fun j i hj hle => by have := HKl.out; omega)); have HW4 := Lib.hid hw4; clear hw4 hc4) | (go_at_call 10; (with_reducible refine (SE.out _ (HR.out.below HB4.out)).mono ?_); rintro e w' ⟨rfl, rfl⟩) | (go_at_call 9; (with_reducible refine (num13_any _ _).mono ?_); rintro e w' ⟨rfl, rfl⟩))
                go_roundw
                case rel => exact ⟨k + 1, (b : Int), _, A4, c4, by omega, by go_num, rfl, rfl, hAt2, HW4, HB4⟩
                case measure => simp [intOf]; omega
          · obtain rfl : k = T := by omega
            have hdr : bits.drop k = [] := by rw [HT0.out, List.drop_length]
            rw [hdr] at hWk
            have NX0 := wnext_any hWk.out
            simp only [nxV] at NX0
            have NX := Lib.hid NX0
            clear hdr NX0
            go_wp2_with (first | (go_at_call 12; (with_reducible refine NX.out.mono ?_); rintro e w3 ⟨rfl, A4, c4, hw4, hc4, _⟩; have HB4 := Lib.hid (hBel.out.trans (hc4.below hBel.out.size fun j i hj hle => by have := HKl.out; omega)); have LE4 := Lib.hid (wleft_any hw4); clear hw4 hc4) | (go_at_call 11; (with_reducible refine LE4.out.mono ?_); rintro e w' ⟨rfl, rfl⟩) | (go_at_call 9; (with_reducible refine (num13_any _ _).mono ?_); rintro e w' ⟨rfl, rfl⟩))
            go_ret
            exact ⟨rfl, HB4.out⟩
theorem round_law (n s : Int) (A : Option Addr) (c : Nat) (ws : List Nat) (w : World) (hz : ws.length * 8 ≤ 140737488355328) (hr : Rd encU w A ws) (hb : ∀ x ∈ ws, x < 18446744073709551616) (ht : TabW w) (hl : 0 < w.heap.size) :
    Calls Tryd.prog 3 #[.int .i64 n, .slice A ws.length c, .int .i64 s] w fun e w' => e = .returned (.bool true) ∧ Below w.heap.size w w' := by
  by_cases h0 : newE n s ws = 0
  · have h1 : ¬ (n < 1 ∨ 65536 < n) := fun h => by unfold newE at h0; rw [if_pos h] at h0; cases h0
    have h2 : ¬ (s < 0 ∨ n < s) := fun h => by unfold newE at h0; rw [if_neg h1, if_pos h] at h0; cases h0
    have h3 : vldE n.toNat ws = 0 := by unfold newE at h0; rwa [if_neg h1, if_neg h2] at h0
    obtain ⟨nn, rfl⟩ : ∃ nn : Nat, n = nn := ⟨n.toNat, by omega⟩
    obtain ⟨ss, rfl⟩ : ∃ ss : Nat, s = ss := ⟨s.toNat, by omega⟩
    exact round_yes (L := ws.length) nn ss (Lib.hid rfl) (Lib.hid (by omega)) (Lib.hid hb) (Lib.hid hr) (Lib.hid ht) (Lib.hid hl) (by omega) (Lib.hid h0) (by omega) (by omega) (by omega) (Lib.hid ((vld_ok hb).1 h3))
  · exact round_no (L := ws.length) n s (Lib.hid rfl) (Lib.hid (by omega)) (Lib.hid hb) (Lib.hid hr) (Lib.hid ht) (Lib.hid hl) (by omega) (Lib.hid h0)
end
end Go.Proofs.YtdhccjmokmdboaaDoor
