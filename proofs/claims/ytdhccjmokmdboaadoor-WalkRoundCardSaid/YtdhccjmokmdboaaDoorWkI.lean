/- WalkRound: the walk of a bitmap gives every set bit just once, in the walk's order. -/
import Derived.Test.YtdhccjmokmdboaaDoorWkH
namespace Go.Proofs.YtdhccjmokmdboaaDoor
open Go.RowKit
set_option linter.unusedVariables false
set_option linter.unusedSimpArgs false
abbrev Rnd (n s : Int) (A : Option Addr) (c L : Nat) (w : World) : Prop := Calls Tryd.prog 3 #[.int .i64 n, .slice A L c, .int .i64 s] w fun e w' => e = .returned (.bool true) ∧ Below w.heap.size w w'
section
variable {A : Option Addr} {c L : Nat} {ws : List Nat} {w : World}
set_option maxRecDepth 20000 in
set_option maxHeartbeats 8000000 in
theorem round_no (n s : Int) (HL : Hid (L = ws.length)) (HZ : Hid (ws.length ≤ 9223372036854775807)) (HB : Hid (∀ x ∈ ws, x < 18446744073709551616)) (HR : Hid (Rd encU w A ws)) (HT : Hid (TabW w)) (HTl : Hid (0 < w.heap.size)) (hLb : L ≤ 17592186044416) (HN : Hid (newE n s ws ≠ 0)) : Rnd n s A c L w := by
  unfold Rnd
  have OW := Lib.hid (own13_any A c ws (by have := HL.out; omega) w HR.out)
  rw [← HL.out] at OW
  obtain ⟨v, hv⟩ : ∃ v, v = newE n s ws := ⟨_, rfl⟩
  have HV := HN
  have hv0 : (v != 0) = true := by rw [bne_iff_ne, hv]; exact HV.out
  by_cases h1 : n < 1
  · have a1 : ¬ 1 ≤ n := by omega
    have HVV := Lib.hid hv
    clear hv h1
    go_enter Tryd.func3, Tryd.ntmps3
    go_wp2_with (first | (go_at_call 8; (with_reducible refine OW.out.mono ?_); rintro e w1 ⟨A1, c1, rfl, hown, B1⟩; have HB1 := Lib.hid B1; have HR1 := Lib.hid (HR.out.below B1); have NW0 := wnew_any (A := A1) (c := c1) n s HZ.out HB.out (own13_rd (by rw [← HL.out]; exact hown)) (HT.out.below B1 HTl.out); rw [← HL.out, ← HVV.out] at NW0; have NW := Lib.hid NW0; clear hown B1 NW0) | (go_at_call 7; (with_reducible refine NW.out.mono ?_); rintro e w2 hnew; obtain ⟨_, rfl, B2⟩ | ⟨h0, _⟩ := hnew; rotate_left; exact absurd (HVV.out.symm.trans h0) HV.out; have HB2 := Lib.hid (HB1.out.trans (B2.mono HB1.out.size)); clear B2) | (go_at_call 9; (with_reducible refine (num13_any _ _).mono ?_); rintro e w' ⟨rfl, rfl⟩))
    go_ret
    exact ⟨rfl, HB2.out⟩
  by_cases h2 : 65536 < n
  · have a1 : 1 ≤ n := by omega
    have a2 : ¬ n ≤ 65536 := by omega
    have HVV := Lib.hid hv
    clear hv h1 h2
    go_enter Tryd.func3, Tryd.ntmps3
    go_wp2_with (first | (go_at_call 8; (with_reducible refine OW.out.mono ?_); rintro e w1 ⟨A1, c1, rfl, hown, B1⟩; have HB1 := Lib.hid B1; have HR1 := Lib.hid (HR.out.below B1); have NW0 := wnew_any (A := A1) (c := c1) n s HZ.out HB.out (own13_rd (by rw [← HL.out]; exact hown)) (HT.out.below B1 HTl.out); rw [← HL.out, ← HVV.out] at NW0; have NW := Lib.hid NW0; clear hown B1 NW0) | (go_at_call 7; (with_reducible refine NW.out.mono ?_); rintro e w2 hnew; obtain ⟨_, rfl, B2⟩ | ⟨h0, _⟩ := hnew; rotate_left; exact absurd (HVV.out.symm.trans h0) HV.out; have HB2 := Lib.hid (HB1.out.trans (B2.mono HB1.out.size)); clear B2) | (go_at_call 9; (with_reducible refine (num13_any _ _).mono ?_); rintro e w' ⟨rfl, rfl⟩))
    go_ret
    exact ⟨rfl, HB2.out⟩
  have a1 : 1 ≤ n := by omega
  have a2 : n ≤ 65536 := by omega
  by_cases h3 : s < 0
  · have a3 : ¬ 0 ≤ s := by omega
    have HVV := Lib.hid hv
    clear hv h1 h2 h3
    go_enter Tryd.func3, Tryd.ntmps3
    go_wp2_with (first | (go_at_call 8; (with_reducible refine OW.out.mono ?_); rintro e w1 ⟨A1, c1, rfl, hown, B1⟩; have HB1 := Lib.hid B1; have HR1 := Lib.hid (HR.out.below B1); have NW0 := wnew_any (A := A1) (c := c1) n s HZ.out HB.out (own13_rd (by rw [← HL.out]; exact hown)) (HT.out.below B1 HTl.out); rw [← HL.out, ← HVV.out] at NW0; have NW := Lib.hid NW0; clear hown B1 NW0) | (go_at_call 7; (with_reducible refine NW.out.mono ?_); rintro e w2 hnew; obtain ⟨_, rfl, B2⟩ | ⟨h0, _⟩ := hnew; rotate_left; exact absurd (HVV.out.symm.trans h0) HV.out; have HB2 := Lib.hid (HB1.out.trans (B2.mono HB1.out.size)); clear B2) | (go_at_call 9; (with_reducible refine (num13_any _ _).mono ?_); rintro e w' ⟨rfl, rfl⟩))
    go_ret
    exact ⟨rfl, HB2.out⟩
  have a3 : 0 ≤ s := by omega
  by_cases h4 : n < s
  · have a4 : ¬ s ≤ n := by omega
    have HVV := Lib.hid hv
    clear hv h1 h2 h3 h4
    go_enter Tryd.func3, Tryd.ntmps3
    go_wp2_with (first | (go_at_call 8; (with_reducible refine OW.out.mono ?_); rintro e w1 ⟨A1, c1, rfl, hown, B1⟩; have HB1 := Lib.hid B1; have HR1 := Lib.hid (HR.out.below B1); have NW0 := wnew_any (A := A1) (c := c1) n s HZ.out HB.out (own13_rd (by rw [← HL.out]; exact hown)) (HT.out.below B1 HTl.out); rw [← HL.out, ← HVV.out] at NW0; have NW := Lib.hid NW0; clear hown B1 NW0) | (go_at_call 7; (with_reducible refine NW.out.mono ?_); rintro e w2 hnew; obtain ⟨_, rfl, B2⟩ | ⟨h0, _⟩ := hnew; rotate_left; exact absurd (HVV.out.symm.trans h0) HV.out; have HB2 := Lib.hid (HB1.out.trans (B2.mono HB1.out.size)); clear B2) | (go_at_call 9; (with_reducible refine (num13_any _ _).mono ?_); rintro e w' ⟨rfl, rfl⟩))
    go_ret
    exact ⟨rfl, HB2.out⟩
  have a4 : s ≤ n := by omega
  have hw : IntKind.i64.wrap (n + 63) = n + 63 := i64_in_ _ (by omega)
  have hq : (n + 63).tdiv 64 = (n + 63) / 64 := Int.tdiv_eq_ediv_of_nonneg (by omega)
  have hm2 : n.tmod 64 = n % 64 := Int.tmod_eq_emod_of_nonneg (by omega)
  by_cases h5 : (L : Int) = (n + 63) / 64
  · have h5' : ((L : Int) == (n + 63) / 64) = true := by rw [beq_iff_eq]; exact h5
    obtain ⟨nn, rfl⟩ : ∃ nn : Nat, n = nn := ⟨n.toNat, by omega⟩
    have hlen : ws.length = (nn + 63) / 64 := by rw [← HL.out]; omega
    have hE : newE (nn : Int) s ws = if nn % 64 ≠ 0 ∧ ws.getD (ws.length - 1) 0 / 2 ^ (nn % 64) ≠ 0 then 2 else 0 := by
      unfold newE
      rw [if_neg (by omega), if_neg (by omega), Int.toNat_natCast, vldE_last hlen HB.out]
    have hc2 : nn % 64 ≠ 0 ∧ ws.getD (ws.length - 1) 0 / 2 ^ (nn % 64) ≠ 0 := by
      by_cases hc : nn % 64 ≠ 0 ∧ ws.getD (ws.length - 1) 0 / 2 ^ (nn % 64) ≠ 0
      · exact hc
      · rw [if_neg hc] at hE; exact absurd hE HV.out
    obtain ⟨ad, x, hA, hx, hc⟩ := HR.out.at_ (k := ws.length - 1) (by omega)
    have hx2 : ws.getD (ws.length - 1) 0 = x := by rw [List.getD_eq_getElem?_getD, hx]; rfl
    rw [hx2] at hc2
    have hm3 : ((nn : Int) % 64 != 0) = true := by rw [bne_iff_ne]; omega
    have hcast : (x : Int) / 2 ^ (nn % 64) = ((x / 2 ^ (nn % 64) : Nat) : Int) := by rw [Int.natCast_ediv, Int.natCast_pow]; rfl
    have hz : ((x : Int) / 2 ^ (nn % 64) != 0) = true := by rw [hcast, bne_iff_ne]; omega
    have hL1 : 1 ≤ L := by omega
    have hs1 : IntKind.i64.wrap ((L : Int) - 1) = ((L - 1 : Nat) : Int) := by rw [i64_in_ _ (by omega)]; omega
    have HX := Lib.hid hx
    subst hA
    have HVV := Lib.hid hv
    clear hv h1 h2 h3 h4 h5 hE hc2 hlen hc hcast hx hx2 hm2
    go_enter Tryd.func3, Tryd.ntmps3
    go_wp2_with (first | (go_at_call 8; (with_reducible refine OW.out.mono ?_); rintro e w1 ⟨A1, c1, rfl, hown, B1⟩; have HB1 := Lib.hid B1; have HR1 := Lib.hid (HR.out.below B1); have NW0 := wnew_any (A := A1) (c := c1) (nn : Int) s HZ.out HB.out (own13_rd (by rw [← HL.out]; exact hown)) (HT.out.below B1 HTl.out); rw [← HL.out, ← HVV.out] at NW0; have NW := Lib.hid NW0; clear hown B1 NW0) | (go_at_call 7; (with_reducible refine NW.out.mono ?_); rintro e w2 hnew; obtain ⟨_, rfl, B2⟩ | ⟨h0, _⟩ := hnew; rotate_left; exact absurd (HVV.out.symm.trans h0) HV.out; have HB2 := Lib.hid (HB1.out.trans (B2.mono HB1.out.size)); obtain ⟨ad', x', e1, hx', hc1⟩ := (HR.out.below HB2.out).at_ (k := ws.length - 1) (by have := HL.out; omega); cases e1; obtain rfl := Option.some.inj (hx'.symm.trans HX.out); rw [← HL.out] at hc1; clear B2) | (go_at_call 9; (with_reducible refine (num13_any _ _).mono ?_); rintro e w' ⟨rfl, rfl⟩))
    go_ret
    exact ⟨rfl, HB2.out⟩
  · have h5' : ((L : Int) == (n + 63) / 64) = false := by rw [beq_eq_false_iff_ne]; exact h5
    have HVV := Lib.hid hv
    clear hv h1 h2 h3 h4 h5
    go_enter Tryd.func3, Tryd.ntmps3
    go_wp2_with (first | (go_at_call 8; (with_reducible refine OW.out.mono ?_); rintro e w1 ⟨A1, c1, rfl, hown, B1⟩; have HB1 := Lib.hid B1; have HR1 := Lib.hid (HR.out.below B1); have NW0 := wnew_any (A := A1) (c := c1) n s HZ.out HB.out (own13_rd (by rw [← HL.out]; exact hown)) (HT.out.below B1 HTl.out); rw [← HL.out, ← HVV.out] at NW0; have NW := Lib.hid NW0; clear hown B1 NW0) | (go_at_call 7; (with_reducible refine NW.out.mono ?_); rintro e w2 hnew; obtain ⟨_, rfl, B2⟩ | ⟨h0, _⟩ := hnew; rotate_left; exact absurd (HVV.out.symm.trans h0) HV.out; have HB2 := Lib.hid (HB1.out.trans (B2.mono HB1.out.size)); clear B2) | (go_at_call 9; (with_reducible refine (num13_any _ _).mono ?_); rintro e w' ⟨rfl, rfl⟩))
    go_ret
    exact ⟨rfl, HB2.out⟩
end
end Go.Proofs.YtdhccjmokmdboaaDoor
