/- Package walk: New refused; Next, Left, Rest; the statements' own ownWords, set, num, by contract. -/
import Derived.Test.YtdhccjmokmdboaaDoorWkF
namespace Go.Proofs.YtdhccjmokmdboaaDoor
open Go.RowKit
set_option linter.unusedVariables false
set_option linter.unusedSimpArgs false
/-- what New answers -/
def newE (n s : Int) (ws : List Nat) : Int := if n < 1 ∨ 65536 < n then 1 else if s < 0 ∨ n < s then 2 else vldE n.toNat ws
section
variable {w w' : World} {ws : List Nat} {A : Option Addr} {c : Nat}
set_option maxRecDepth 20000 in
set_option maxHeartbeats 4000000 in
theorem wnew_any (n s : Int) (hl : ws.length ≤ 9223372036854775807) (hb : ∀ x ∈ ws, x < 18446744073709551616) (hr : Rd encU w A ws) (ht : TabW w) :
    Calls Tryd.prog 7 #[.int .i64 n, .slice A ws.length c, .int .i64 s] w fun e w' =>
      (newE n s ws ≠ 0 ∧ e = .returned (.tuple #[.pointer none, .int .i64 (newE n s ws)]) ∧ Below w.heap.size w w') ∨
      (newE n s ws = 0 ∧ (1 ≤ n ∧ n ≤ 65536 ∧ 0 ≤ s ∧ s ≤ n ∧ okW n.toNat ws) ∧ ∃ (K : Nat) (A' : Option Addr) (c' : Nat), e = .returned (.tuple #[.pointer (some ⟨K, 0, none⟩), .int .i64 0]) ∧ WkIn w' K (walkL ws n.toNat s.toNat) A' c' ∧ Below w.heap.size w w' ∧ w.heap.size ≤ K ∧ fromB w.heap.size A' c') := by
  by_cases h1 : n < 1 ∨ 65536 < n
  · have he : newE n s ws = 1 := if_pos h1
    rw [he]
    have fin : ∀ W, Below w.heap.size w W → ((1 : Int) ≠ 0 ∧ Ending.returned (.tuple #[.pointer none, .int .i64 1]) = .returned (.tuple #[.pointer none, .int .i64 1]) ∧ Below w.heap.size w W) := fun W h => ⟨by decide, rfl, h⟩
    have B0 : Below w.heap.size w (w.alloc (.cells #[.int .i64 s] 3)) := (Below.refl _ w).alloc (Nat.le_refl _) _
    obtain ⟨L, hL⟩ : ∃ L, L = ws.length := ⟨_, rfl⟩
    rw [← hL]
    have HF := Lib.hid (fin _ B0)
    clear hL hr ht hb he fin B0 hl
    rcases h1 with h1 | h1
    · go_enter Tryd.func7, Tryd.ntmps7
      go_wp2
      go_ret2
      exact ⟨rfl, HF.out.2.2⟩
    · have h2 : ¬ n < 1 := by omega
      go_enter Tryd.func7, Tryd.ntmps7
      go_wp2
      go_ret2
      exact ⟨rfl, HF.out.2.2⟩
  · by_cases h2 : s < 0 ∨ n < s
    · have he : newE n s ws = 2 := by unfold newE; rw [if_neg h1, if_pos h2]
      rw [he]
      have B0 : Below w.heap.size w (w.alloc (.cells #[.int .i64 s] 3)) := (Below.refl _ w).alloc (Nat.le_refl _) _
      obtain ⟨L, hL⟩ : ∃ L, L = ws.length := ⟨_, rfl⟩
      rw [← hL]
      have HB := Lib.hid B0
      have a1 : ¬ n < 1 := by omega
      have a2 : ¬ 65536 < n := by omega
      clear hL hr ht hb he B0 hl h1
      rcases h2 with h2 | h2
      · go_enter Tryd.func7, Tryd.ntmps7
        go_wp2
        go_ret2
        exact ⟨rfl, HB.out⟩
      · have h3 : ¬ s < 0 := by omega
        go_enter Tryd.func7, Tryd.ntmps7
        go_wp2
        go_ret2
        exact ⟨rfl, HB.out⟩
    · have he : newE n s ws = vldE n.toNat ws := by unfold newE; rw [if_neg h1, if_neg h2]
      rw [he]
      obtain ⟨nn, rfl⟩ : ∃ nn : Nat, n = nn := ⟨n.toNat, by omega⟩
      obtain ⟨ss, rfl⟩ : ∃ ss : Nat, s = ss := ⟨s.toNat, by omega⟩
      simp only [Int.toNat_natCast]
      by_cases hv : vldE nn ws = 0
      · refine (wnew_yes (n := nn) (s := ss) (by omega) (by omega) (by omega) hl hb hr ht hv).mono ?_
        intro e w' h
        exact .inr ⟨hv, ⟨by omega, by omega, by omega, by omega, (vld_ok hb).1 hv⟩, h⟩
      · have FR := Lib.hid (bm_from_any nn (by omega) (by omega) A c ws hl hb (w.alloc (.cells #[.int .i64 (ss : Int)] 3)) (hr.alloc _))
        obtain ⟨L, hL⟩ : ∃ L, L = ws.length := ⟨_, rfl⟩
        rw [← hL] at FR ⊢
        have B0 := Lib.hid (show Below w.heap.size w (w.alloc (.cells #[.int .i64 (ss : Int)] 3)) from (Below.refl _ w).alloc (Nat.le_refl _) _)
        have HV := Lib.hid hv
        have a1 : ¬ (nn : Int) < 1 := by omega
        have a2 : ¬ (65536 : Int) < (nn : Int) := by omega
        have a3 : ¬ (ss : Int) < 0 := by omega
        have a4 : ¬ (nn : Int) < (ss : Int) := by omega
        have hb' : ∀ x ∈ ws, x < 18446744073709551616 := hb
        have VO := Lib.hid (vld_ok (n := nn) hb')
        obtain ⟨v, hvv⟩ : ∃ v, v = vldE nn ws := ⟨_, rfl⟩
        rw [← hvv] at FR HV ⊢
        have hv0 : (v != 0) = true := by rw [bne_iff_ne]; exact HV.out
        have HVV := Lib.hid hvv
        clear hL hr ht hb hb' he hl h1 h2 hv hvv
        go_enter Tryd.func7, Tryd.ntmps7
        go_wp2_with (first | (go_at_call 21; (with_reducible refine FR.out.mono ?_); rintro e w1 hf; obtain ⟨_, rfl, B1⟩ | ⟨ok, _⟩ := hf; rotate_left; exact absurd (HVV.out.trans (VO.out.2 ok)) HV.out; have HB1 := Lib.hid B1; clear B1))
        go_ret2
        exact .inl ⟨HV.out, rfl, B0.out.trans (HB1.out.mono (by rw [World.size_alloc]; omega))⟩
end
section
variable {w w' : World} {K : Nat} {bits : List Nat} {A : Option Addr} {c : Nat}
theorem WkIn.cap (h : WkIn w K bits A c) : bits.length ≤ c ∧ c ≤ 9223372036854775807 := by
  rcases h.2 with ⟨_, e1, e2⟩ | ⟨g, o, cs, _, e2, e3, _⟩
  · rw [e1, e2]; simp
  · exact ⟨e2, by simpa [maxLen] using e3⟩
theorem WkIn.chg {F : Nat → Nat → Prop} (h : WkIn w K bits A c) (hc : Chg F w w') (hn : ∀ k i, k = K ∨ slFp 1 A 0 c k i → ¬ F k i) : WkIn w' K bits A c :=
  ⟨hc.blk h.1 fun i => hn _ _ (.inl rfl), h.2.chg hc encNat_len fun k i hs => hn k i (.inr (slFp_len h.2 hs))⟩
theorem WkIn.below (h : WkIn w K bits A c) (hB : Below w.heap.size w w') : WkIn w' K bits A c := h.chg (Chg.of_below (fun _ _ => False) hB) fun _ _ _ h => h
theorem WkIn.drewN (h : WkIn w K bits A c) (n : Nat) : WkIn (w.drewN n) K bits A c := h.chg ((Chg.refl (fun _ _ => False) w).drewN n) fun _ _ _ h => h
set_option maxRecDepth 20000 in
theorem wleft_any (h : WkIn w K bits A c) : Calls Tryd.prog 11 #[.pointer (some ⟨K, 0, none⟩)] w fun e w' => e = .returned (.int .i64 bits.length) ∧ w = w' := by
  have c0 := h.1.cell 0
  have c0' : w.cell? ⟨K, 0, none⟩ = some (.slice A bits.length c) := c0
  clear h c0
  go_enter Tryd.func11, Tryd.ntmps11
  go_wp2
  go_ret
  exact ⟨rfl, rfl⟩
/-- what Next answers -/
def nxV : List Nat → Int × Int
  | [] => (0, 131)
  | b :: _ => (b, 0)
set_option maxRecDepth 20000 in
set_option maxHeartbeats 4000000 in
theorem wnext_any (h : WkIn w K bits A c) : Calls Tryd.prog 12 #[.pointer (some ⟨K, 0, none⟩)] w fun e w' => e = .returned (.tuple #[.int .i64 (nxV bits).1, .int .i64 (nxV bits).2]) ∧ ∃ A' c', WkIn w' K (bits.drop 1) A' c' ∧ Chg (fun k _ => k = K) w w' ∧ ∀ k i, slFp 1 A' 0 c' k i → slFp 1 A 0 c k i := by
  cases bits with
  | nil =>
    have c0 : w.cell? ⟨K, 0, none⟩ = some (.slice A 0 c) := h.1.cell 0
    have HH := Lib.hid h
    clear h
    go_enter Tryd.func12, Tryd.ntmps12
    go_wp2
    go_ret2
    exact ⟨rfl, A, c, HH.out, Chg.refl _ _, fun _ _ h => h⟩
  | cons b l =>
    obtain ⟨N, hN⟩ : ∃ N, N = (b :: l).length := ⟨_, rfl⟩
    have c0 : w.cell? ⟨K, 0, none⟩ = some (.slice A N c) := by rw [hN]; exact h.1.cell 0
    have f0 : w.frozen? ⟨K, 0, none⟩ = false := h.1.frozen 0
    obtain ⟨g, o, hA, hg, hx⟩ := h.2.cell (k := 0) (x := b) rfl
    subst hA
    have x0 : w.cell? ⟨g, o, none⟩ = some (.int .i64 (b : Int)) := by simpa using (hx 0 _ rfl).1
    have hcap := h.cap
    have hN1 : 1 ≤ N := by rw [hN]; simp
    have hNc : N ≤ c := by rw [hN]; exact hcap.1
    have hcm : c ≤ 9223372036854775807 := hcap.2
    have hN0 : ((N : Int) == 0) = false := by rw [beq_eq_false_iff_ne]; omega
    have hdr := h.2.drop 1 (by simp)
    obtain ⟨A1, hA1⟩ : ∃ A1 : Option Addr, A1 = if c = 1 then some ⟨g, o, none⟩ else some ⟨g, o + 1, none⟩ := ⟨_, rfl⟩
    obtain ⟨cc, hcc⟩ : ∃ cc, cc = c - 1 := ⟨_, rfl⟩
    rw [show (if c = 1 then some (⟨g, o, none⟩ : Addr) else (some (⟨g, o, none⟩ : Addr)).map (·.add (1 * 1))) = A1 by rw [hA1]; simp [add_lit_], ← hcc] at hdr
    have hsub : ∀ k i, slFp 1 A1 0 cc k i → slFp 1 (some ⟨g, o, none⟩) 0 c k i := fun k i hh => by
      obtain ⟨o', e, q1, q2⟩ := hh
      rw [hA1] at e
      split at e
      · cases e; exact ⟨o, rfl, by omega, by omega⟩
      · simp only [Option.some.injEq, Addr.mk.injEq] at e
        obtain ⟨rfl, rfl, _⟩ := e
        exact ⟨o, rfl, by omega, by omega⟩
    have hgK : g ≠ K := by
      intro e
      subst e
      rcases h.2 with ⟨e1, _⟩ | ⟨g2, o2, cs2, e1, _, _, hb2, _⟩
      · cases e1
      · cases e1
        have := Blk.ne_ (show Blk w g 3 cs2 from hb2) h.1 (by decide)
        exact this rfl
    have hNl : N - 1 = l.length := by rw [hN]; simp
    have hfin : WkIn (w.setCell ⟨K, 0, none⟩ (.slice A1 (N - 1) cc)) K l A1 cc := by
      refine ⟨by rw [← hNl]; exact h.1.set_ 0 _, hdr.chg (Chg.setCell (fun k _ => k = K) w (g := K) (i := 0) rfl _) encNat_len fun k i hs e => ?_⟩
      obtain ⟨o', e2, _⟩ := slFp_len hdr hs
      rw [hA1] at e2
      split at e2
      · cases e2; exact hgK e
      · cases e2; exact hgK e
    have HF := Lib.hid hfin
    have HS := Lib.hid hsub
    have HA1 := Lib.hid hA1
    have Hcc := Lib.hid hcc
    clear h hx hdr hfin hsub hA1 hcc hN hcap hNl hgK
    go_enter Tryd.func12, Tryd.ntmps12
    go_upto_region 5 with fail
    rw [← HA1.out, ← Hcc.out]
    go_wp2
    go_ret2
    exact ⟨rfl, A1, cc, HF.out, Chg.setCell (fun k _ => k = K) w (g := K) (i := 0) rfl _, HS.out⟩
set_option maxRecDepth 20000 in
theorem wrest_any (w : World) : Calls Tryd.prog 15 #[.pointer (some ⟨K, 0, none⟩)] w fun e w' => e = .returned (.func (.func 25) #[] #[.pointer (some ⟨w.heap.size, 0, none⟩)]) ∧ w' = w.alloc (.cells #[.pointer (some ⟨K, 0, none⟩)] 23) := by
  go_enter Tryd.func15, Tryd.ntmps15
  go_wp2
  go_ret
  exact ⟨rfl, rfl⟩
end
theorem num13_any (n : Int) (w : World) : Calls Tryd.prog 9 #[.int .i64 n] w fun e w' => e = .returned (.int .i64 n) ∧ w = w' := by
  go_enter Tryd.func9, Tryd.ntmps9
  go_wp2
  go_ret
  exact ⟨rfl, rfl⟩
end Go.Proofs.YtdhccjmokmdboaaDoor
