/- Package locks: slices.Delete of one place, find, goes, known, owners, by contract. -/
import Derived.Test.YtkjbjfjgnponfaaLkA
namespace Go.Proofs.Ytkjbjfjgnponfaa
open Go.RowKit
set_option linter.unusedSimpArgs false
theorem drop_rds {w : World} {g c k : Nat} {l : List Pl} (h : GSl encP 2 96 w (some ⟨g, 0, none⟩) c l) (hk0 : 0 < k) (hk : k ≤ l.length) : RdS encP 2 w (some (if c = k then ⟨g, 0, none⟩ else ⟨g, k * 2, none⟩)) (l.drop k) := by
  have h1 := (h.drop k hk).rds
  by_cases e : c = k
  · rw [if_pos e] at h1 ⊢; exact h1
  · rw [if_neg e] at h1 ⊢
    have hk2 : k * 2 ≠ 0 := by omega
    simpa [Addr.add, hk2] using h1
theorem erase_eq (l : List Pl) (i : Nat) : l.take i ++ l.drop (i + 1) = l.eraseIdx i := (List.eraseIdx_eq_take_drop_succ l i).symm
set_option maxRecDepth 20000 in
set_option maxHeartbeats 4000000 in
theorem delete_any (g c n m i : Nat) (a b : Int) (l : List Pl) (w : World) (hl : l.length = n) (hm : n = m + 1) (hi : i < n) (ha : a = (i : Int)) (hb : b = (i : Int) + 1) (h : GSl encP 2 96 w (some ⟨g, 0, none⟩) c l) :
    Calls Try.prog 68 #[.slice (some ⟨g, 0, none⟩) n c, .int .i64 a, .int .i64 b] w fun e w' => e = .returned (.slice (some ⟨g, 0, none⟩) m c) ∧ GSl encP 2 96 w' (some ⟨g, 0, none⟩) c (l.eraseIdx i) ∧ Chg (fun k _ => k = g) w w' := by
  subst ha
  subst hb
  have hnc : n ≤ c := by rw [← hl]; exact h.le
  have hcm : c ≤ 9223372036854775807 := by
    rcases h with ⟨h, _⟩ | ⟨_, _, _, _, _, h2, _⟩
    · cases h
    · simpa [maxLen] using h2
  have G := Lib.hid h
  have HL := Lib.hid hl
  have HM := Lib.hid hm
  have tl := Lib.hid (show (l.take i).length = i by rw [List.length_take, hl]; omega)
  have dl := Lib.hid (show (l.drop (i + 1)).length = n - (i + 1) by rw [List.length_drop, hl])
  have hi1 : (0 : Int) ≤ (i : Int) ∧ (i : Int) ≤ (i : Int) + 1 ∧ (i : Int) + 1 ≤ (n : Int) ∧ (n : Int) ≤ (c : Int) := by omega
  have hi0 : (0 : Int) ≤ (i : Int) + 1 := by omega
  have hic : i ≤ c := by omega
  have hic1 : i + 1 ≤ c := by omega
  have hin1 : i + 1 ≤ n := by omega
  have hne : ((i : Int) == (i : Int) + 1) = false := by rw [beq_eq_false_iff_ne]; omega
  clear h hl hm
  by_cases hck : c = i + 1
  · subst hck
    go_enter Try.func68, Try.ntmps68
    go_wp2_with fail
    refine wp_region_noPanic ?_
    refine wp_region_held_drew (S := fun _ => True) (by kernel_rfl) trivial (fun hHeld => ?_)
    refine take_on (i := 0) (some 20) (v := ?vr1) rfl rfl (by kernel_rfl) (by kernel_rfl) (by kernel_rfl) (fun _ _ _ h => h) (by rfl) ?hyr1 (by with_reducible exact hHeld) ?restr1
    case hyr1 => (intro wS hSw; (try dsimp only at hSw); go_simp; try with_reducible rfl)
    try simp only [Act.put, List.setIfInBounds_toArray, List.set_cons_zero, List.set_cons_succ]
    refine take_on (i := 1) (some 21) (v := ?vr2) rfl rfl (by kernel_rfl) (by kernel_rfl) (by kernel_rfl) (fun _ _ _ h => h) (by rfl) ?hyr2 (by with_reducible exact hHeld) ?restr2
    case hyr2 => (intro wS hSw; (try dsimp only at hSw); go_simp; try with_reducible rfl)
    try simp only [Act.put, List.setIfInBounds_toArray, List.set_cons_zero, List.set_cons_succ]
    refine take_on (i := 2) (some 22) (v := ?vr3) rfl rfl (by kernel_rfl) (by kernel_rfl) (by kernel_rfl) (fun _ _ _ h => h) (by rfl) ?hyr3 (by with_reducible exact hHeld) ?restr3
    case hyr3 => (intro wS hSw; (try dsimp only at hSw); go_simp; try with_reducible rfl)
    try simp only [Act.put, List.setIfInBounds_toArray, List.set_cons_zero, List.set_cons_succ]
    refine take_on (i := 3) (some 23) (v := ?vr4) rfl rfl (by kernel_rfl) (by kernel_rfl) (by kernel_rfl) (fun _ _ _ h => h) (by rfl) ?hyr4 (by with_reducible exact hHeld) ?restr4
    case hyr4 => (intro wS hSw; (try dsimp only at hSw); go_simp; try with_reducible rfl)
    try simp only [Act.put, List.setIfInBounds_toArray, List.set_cons_zero, List.set_cons_succ]
    refine take_on (i := 4) (some 24) (v := ?vr5) rfl rfl (by kernel_rfl) (by kernel_rfl) (by kernel_rfl) (fun _ _ _ h => h) (by rfl) ?hyr5 (by with_reducible exact hHeld) ?restr5
    case hyr5 => (intro wS hSw; (try dsimp only at hSw); go_simp; try with_reducible rfl)
    try simp only [Act.put, List.setIfInBounds_toArray, List.set_cons_zero, List.set_cons_succ]
    refine take_on (i := 5) (some 25) (v := ?vr6) rfl rfl (by kernel_rfl) (by kernel_rfl) (by kernel_rfl) (fun _ _ _ h => h) (by rfl) ?hyr6 (by with_reducible exact hHeld) ?restr6
    case hyr6 => (intro wS hSw; (try dsimp only at hSw); go_simp; try with_reducible rfl)
    try simp only [Act.put, List.setIfInBounds_toArray, List.set_cons_zero, List.set_cons_succ]
    have hrd : RdS encP 2 w.drew (some ⟨g, 0, none⟩) (l.drop (i + 1)) := by
      have h1 := drop_rds (w := w) G.out (k := i + 1) (by omega) (by rw [HL.out]; omega)
      rw [if_pos rfl] at h1
      exact h1
    have hg0 : GSl encP 2 96 w.drew (some ⟨g, 0, none⟩) (i + 1) (l.take i) := GSl.pre G.out i
    refine wpAnyH_ready (rs := [6]) (by kernel_rfl) (by simp) ?_
    refine AllReadyH.cons rfl (fun K hK => ?_) AllReadyH.nil
    refine step_appendR pTy (by decide) encP_len encP_one (by rfl) (.tmp 22) (.tmp 25) (by rfl) g 0 ((i + 1)) (l.take i) (by rw [tl.out]; rfl) hg0 ⟨g, 0, none⟩ (0) (l.drop (i + 1)) (by rw [dl.out, show n - (i + 1) = 0 by omega]; rfl) hrd (by rw [tl.out, dl.out]; omega) ?_
    intro w1 g1 k1
    have hlen : (l.take i ++ l.drop (i + 1)).length = m := by rw [List.length_append, tl.out, dl.out]; have := HM.out; omega
    rw [hlen]
    refine hK.out _ _ trivial (fun hHeld => ?_)
    clear hK K
    try simp only [Act.put, List.setIfInBounds_toArray, List.set_cons_zero, List.set_cons_succ]
    refine take_on (i := 7) (some 0) (v := ?vr7) rfl rfl (by kernel_rfl) (by kernel_rfl) (by kernel_rfl) (fun _ _ _ h => h) (by rfl) ?hyr7 (by with_reducible exact hHeld) ?restr7
    case hyr7 => (intro wS hSw; (try dsimp only at hSw); go_simp; try with_reducible rfl)
    try simp only [Act.put, List.setIfInBounds_toArray, List.set_cons_zero, List.set_cons_succ]
    refine wpAnyH_done (by kernel_rfl) ?_ _
    refine NoPanic.normal ?_
    have hmc : m < (i + 1) := by have := HM.out; omega
    obtain ⟨w2, hcl, k2⟩ := run_clear_one 0 g1 (by rw [hlen]; exact hmc) ((i + 1) - m)
    rw [hlen] at hcl k2
    have G1 := Lib.hid g1
    have K1 := Lib.hid k1
    have K2 := Lib.hid k2
    have HLN := Lib.hid hlen
    have hmn : (m : Int) ≤ (n : Int) := by have := HM.out; omega
    have hnm : n - m = 1 := by have := HM.out; omega
    clear g1 k1 k2 hlen hg0 hrd
    go_wp2_with fail
    go_ret
    refine ⟨rfl, ?_, ?_⟩
    · rw [← erase_eq]
      exact G1.out.chg K2.out encP_len (fun g' j hs hF => by
        obtain ⟨o1, e1, _, h2⟩ := hs
        obtain ⟨o2, e3, h3, _⟩ := hF
        cases e1
        cases e3
        rw [HLN.out] at h2
        omega)
    · exact ((((Chg.refl (fun k _ => k = g) w).drew).trans K1.out fun k j _ hs => by obtain ⟨o1, e1, _⟩ := hs; cases e1; rfl).trans K2.out fun k j _ hs => by obtain ⟨o1, e1, _⟩ := hs; cases e1; rfl)
  · go_enter Try.func68, Try.ntmps68
    go_wp2_with fail
    refine wp_region_noPanic ?_
    refine wp_region_held_drew (S := fun _ => True) (by kernel_rfl) trivial (fun hHeld => ?_)
    refine take_on (i := 0) (some 20) (v := ?vr15) rfl rfl (by kernel_rfl) (by kernel_rfl) (by kernel_rfl) (fun _ _ _ h => h) (by rfl) ?hyr15 (by with_reducible exact hHeld) ?restr15
    case hyr15 => (intro wS hSw; (try dsimp only at hSw); go_simp; try with_reducible rfl)
    try simp only [Act.put, List.setIfInBounds_toArray, List.set_cons_zero, List.set_cons_succ]
    refine take_on (i := 1) (some 21) (v := ?vr16) rfl rfl (by kernel_rfl) (by kernel_rfl) (by kernel_rfl) (fun _ _ _ h => h) (by rfl) ?hyr16 (by with_reducible exact hHeld) ?restr16
    case hyr16 => (intro wS hSw; (try dsimp only at hSw); go_simp; try with_reducible rfl)
    try simp only [Act.put, List.setIfInBounds_toArray, List.set_cons_zero, List.set_cons_succ]
    refine take_on (i := 2) (some 22) (v := ?vr17) rfl rfl (by kernel_rfl) (by kernel_rfl) (by kernel_rfl) (fun _ _ _ h => h) (by rfl) ?hyr17 (by with_reducible exact hHeld) ?restr17
    case hyr17 => (intro wS hSw; (try dsimp only at hSw); go_simp; try with_reducible rfl)
    try simp only [Act.put, List.setIfInBounds_toArray, List.set_cons_zero, List.set_cons_succ]
    refine take_on (i := 3) (some 23) (v := ?vr18) rfl rfl (by kernel_rfl) (by kernel_rfl) (by kernel_rfl) (fun _ _ _ h => h) (by rfl) ?hyr18 (by with_reducible exact hHeld) ?restr18
    case hyr18 => (intro wS hSw; (try dsimp only at hSw); go_simp; try with_reducible rfl)
    try simp only [Act.put, List.setIfInBounds_toArray, List.set_cons_zero, List.set_cons_succ]
    refine take_on (i := 4) (some 24) (v := ?vr19) rfl rfl (by kernel_rfl) (by kernel_rfl) (by kernel_rfl) (fun _ _ _ h => h) (by rfl) ?hyr19 (by with_reducible exact hHeld) ?restr19
    case hyr19 => (intro wS hSw; (try dsimp only at hSw); go_simp; try with_reducible rfl)
    try simp only [Act.put, List.setIfInBounds_toArray, List.set_cons_zero, List.set_cons_succ]
    refine take_on (i := 5) (some 25) (v := ?vr20) rfl rfl (by kernel_rfl) (by kernel_rfl) (by kernel_rfl) (fun _ _ _ h => h) (by rfl) ?hyr20 (by with_reducible exact hHeld) ?restr20
    case hyr20 => (intro wS hSw; (try dsimp only at hSw); go_simp; try with_reducible rfl)
    try simp only [Act.put, List.setIfInBounds_toArray, List.set_cons_zero, List.set_cons_succ]
    have hrd : RdS encP 2 w.drew (some ⟨g, (i + 1) * 2, none⟩) (l.drop (i + 1)) := by
      have h1 := drop_rds (w := w) G.out (k := i + 1) (by omega) (by rw [HL.out]; omega)
      rw [if_neg hck] at h1
      exact h1
    have hg0 : GSl encP 2 96 w.drew (some ⟨g, 0, none⟩) c (l.take i) := GSl.pre G.out i
    refine wpAnyH_ready (rs := [6]) (by kernel_rfl) (by simp) ?_
    refine AllReadyH.cons rfl (fun K hK => ?_) AllReadyH.nil
    refine step_appendR pTy (by decide) encP_len encP_one (by rfl) (.tmp 22) (.tmp 25) (by rfl) g 0 (c) (l.take i) (by rw [tl.out]; rfl) hg0 ⟨g, (i + 1) * 2, none⟩ (c - (i + 1)) (l.drop (i + 1)) (by rw [dl.out]; rfl) hrd (by rw [tl.out, dl.out]; omega) ?_
    intro w1 g1 k1
    have hlen : (l.take i ++ l.drop (i + 1)).length = m := by rw [List.length_append, tl.out, dl.out]; have := HM.out; omega
    rw [hlen]
    refine hK.out _ _ trivial (fun hHeld => ?_)
    clear hK K
    try simp only [Act.put, List.setIfInBounds_toArray, List.set_cons_zero, List.set_cons_succ]
    refine take_on (i := 7) (some 0) (v := ?vr21) rfl rfl (by kernel_rfl) (by kernel_rfl) (by kernel_rfl) (fun _ _ _ h => h) (by rfl) ?hyr21 (by with_reducible exact hHeld) ?restr21
    case hyr21 => (intro wS hSw; (try dsimp only at hSw); go_simp; try with_reducible rfl)
    try simp only [Act.put, List.setIfInBounds_toArray, List.set_cons_zero, List.set_cons_succ]
    refine wpAnyH_done (by kernel_rfl) ?_ _
    refine NoPanic.normal ?_
    have hmc : m < c := by have := HM.out; omega
    obtain ⟨w2, hcl, k2⟩ := run_clear_one 0 g1 (by rw [hlen]; exact hmc) (c - m)
    rw [hlen] at hcl k2
    have G1 := Lib.hid g1
    have K1 := Lib.hid k1
    have K2 := Lib.hid k2
    have HLN := Lib.hid hlen
    have hmn : (m : Int) ≤ (n : Int) := by have := HM.out; omega
    have hnm : n - m = 1 := by have := HM.out; omega
    clear g1 k1 k2 hlen hg0 hrd
    go_wp2_with fail
    go_ret
    refine ⟨rfl, ?_, ?_⟩
    · rw [← erase_eq]
      exact G1.out.chg K2.out encP_len (fun g' j hs hF => by
        obtain ⟨o1, e1, _, h2⟩ := hs
        obtain ⟨o2, e3, h3, _⟩ := hF
        cases e1
        cases e3
        rw [HLN.out] at h2
        omega)
    · exact ((((Chg.refl (fun k _ => k = g) w).drew).trans K1.out fun k j _ hs => by obtain ⟨o1, e1, _⟩ := hs; cases e1; rfl).trans K2.out fun k j _ hs => by obtain ⟨o1, e1, _⟩ := hs; cases e1; rfl)

/-- where an owner stands; -1: nowhere -/
def hasO (o : Int) (p : Pl) : Bool := p.1 == o
def findI (l : List Pl) (o : Int) : Int := match l.findIdx? (hasO o) with | some i => (i : Int) | none => -1
theorem find1_any (x : Pl) (o : Int) (B : Nat) (w : World) (hB : w.cell? ⟨B, 0, none⟩ = some (.int .i64 o)) (hlt : B < w.heap.size) :
    Calls Try.prog 67 #[.agg #[.int .i64 x.1, .int .i64 x.2], .pointer (some ⟨B, 0, none⟩)] w fun e w' => e = .returned (.bool (hasO o x)) ∧ Below w.heap.size w w' := by
  have hne : B ≠ w.heap.size := by omega
  have B0 := (Below.refl w.heap.size w).alloc (Nat.le_refl _) (.cells #[.int .i64 x.1, .int .i64 x.2] 96)
  obtain ⟨a, b⟩ := x
  go_enter Try.func67, Try.ntmps67
  go_wp2
  go_ret
  exact ⟨rfl, B0⟩
theorem findI_at {l : List Pl} {o : Int} {k : Nat} {x : Pl} (hk : l[k]? = some x) (hx : hasO o x = true) (hn : ∀ j y, j < k → l[j]? = some y → hasO o y = false) : findI l o = (k : Int) := by
  have h : l.findIdx? (hasO o) = some k := by
    rw [List.findIdx?_eq_some_iff_getElem]
    obtain ⟨hlt, he⟩ := List.getElem?_eq_some_iff.1 hk
    exact ⟨hlt, by rw [he]; exact hx, fun j hj => by rw [Bool.not_eq_true]; exact hn j _ hj (List.getElem?_eq_getElem (by omega))⟩
  unfold findI
  rw [h]
theorem findI_none {l : List Pl} {o : Int} (hn : ∀ (j : Nat) y, l[j]? = some y → hasO o y = false) : findI l o = -1 := by
  have h : l.findIdx? (hasO o) = none := by
    rw [List.findIdx?_eq_none_iff]
    intro y hy
    obtain ⟨j, hj⟩ := List.getElem?_of_mem hy
    exact hn j y hj
  unfold findI
  rw [h]
set_option maxHeartbeats 2000000 in
theorem index_any (A : Option Addr) (c n : Nat) (l : List Pl) (o : Int) (B : Nat) (w : World) (hl : l.length = n) (hn : n ≤ 9223372036854775807) (h : RdS encP 2 w A l) (hB : w.cell? ⟨B, 0, none⟩ = some (.int .i64 o)) (hlt : B < w.heap.size) :
    Calls Try.prog 66 #[.slice A n c, .func (.func 67) #[] #[.pointer (some ⟨B, 0, none⟩)]] w fun e w' => e = .returned (.int .i64 (findI l o)) ∧ Below w.heap.size w w' := by
  have HR := Lib.hid h
  have HL := Lib.hid hl
  have HB := Lib.hid hB
  clear h hl hB
  go_enter Try.func66, Try.ntmps66
  go_wp2_with fail
  go_loopw [8] (fun t8 wr => ∃ k : Nat, k ≤ n ∧ t8 = .int .i64 (k : Int) ∧ Hid (∀ j y, j < k → l[j]? = some y → hasO o y = false) ∧ Below w.heap.size w wr) (fun t8 _ => n - (intOf t8).toNat)
  case atStart => exact ⟨0, Nat.zero_le _, rfl, Lib.hid (fun j y hj => by omega), Below.refl _ _⟩
  case round =>
    obtain ⟨k, hk, rfl, hno, hBl⟩ := hrel
    by_cases hlk : k < n
    · have hlk' : (k : Int) < (n : Int) := by omega
      obtain ⟨g, off, x, hA, hg, hx, hc⟩ := HR.out.at_ (show k < l.length by rw [HL.out]; exact hlk)
      subst hA
      have x0 : wr.cell? ⟨g, off + k * 2, none⟩ = some (.int .i64 x.1) := (hBl.cell (p := ⟨g, off + k * 2, none⟩) hg).trans (hc 0 _ rfl)
      have x1 : wr.cell? ⟨g, off + k * 2 + 1, none⟩ = some (.int .i64 x.2) := (hBl.cell (p := ⟨g, off + k * 2 + 1, none⟩) hg).trans (hc 1 _ rfl)
      have g1 := Lib.hid (find1_any x o B wr ((hBl.cell (p := ⟨B, 0, none⟩) hlt).trans HB.out) (by have := hBl.size; omega))
      have HX := Lib.hid hx
      have HBl := Lib.hid hBl
      clear hc hx hBl
      go_wp2_with fail
      refine g1.out.mono ?_
      rintro e w1 ⟨rfl, hB1⟩
      have B1 := Lib.hid (HBl.out.trans (hB1.mono HBl.out.size))
      clear g1 hB1 x0 x1
      cases hf : hasO o x with
      | true =>
        have hfi := Lib.hid (findI_at HX.out hf hno.out)
        go_wp2
        go_ret
        exact ⟨by rw [hfi.out]; rfl, B1.out⟩
      | false =>
        go_wp2
        go_roundw
        case rel => exact ⟨k + 1, by omega, by go_num, Lib.hid (fun j y hj hy => by
          rcases Nat.lt_or_ge j k with h1 | h1
          · exact hno.out j y h1 hy
          · obtain rfl : j = k := by omega
            rw [HX.out] at hy
            cases hy
            exact hf), B1.out⟩
        case measure => simp [intOf]; omega
    · obtain rfl : k = n := by omega
      have hfi := Lib.hid (findI_none (l := l) (o := o) (fun j y hy => hno.out j y (by have := (List.getElem?_eq_some_iff.1 hy).1; have := HL.out; omega) hy))
      go_wp2
      go_ret
      exact ⟨by rw [hfi.out]; rfl, hBl⟩
theorem find_any (A : Option Addr) (c n : Nat) (l : List Pl) (o : Int) (w : World) (hl : l.length = n) (hn : n ≤ 9223372036854775807) (h : RdS encP 2 w A l) :
    Calls Try.prog 54 #[.slice A n c, .int .i64 o] w fun e w' => e = .returned (.int .i64 (findI l o)) ∧ Below w.heap.size w w' := by
  have B0 := (Below.refl w.heap.size w).alloc (Nat.le_refl _) (.cells #[.int .i64 o] 3)
  have g1 := Lib.hid (index_any A c n l o w.heap.size (w.alloc (.cells #[.int .i64 o] 3)) hl hn (h.below B0) (by simp) (by simp))
  have HB0 := Lib.hid B0
  clear h B0
  go_enter Try.func54, Try.ntmps54
  go_wp2_with fail
  refine g1.out.mono ?_
  rintro e w1 ⟨rfl, hB1⟩
  go_wp2
  go_ret
  exact ⟨rfl, HB0.out.trans (hB1.mono HB0.out.size)⟩
end Go.Proofs.Ytkjbjfjgnponfaa
