/- The transfer log: Barrier, by contract. -/
import Derived.Test.YtagkhhoimgighaaTlog6
namespace Go.Proofs.Ytagkhhoimgighaa
open Go.RowKit

section
variable {w w' : World} {G : Nat} {s : LogS} {F F' : Nat → Nat → Prop} {A : Option Addr} {c b n : Nat}
/-- how many writes at the front are of this epoch -/
def lead (l : List Wr) (ep : Int) : Nat := (l.takeWhile fun x => x.ep == ep).length
theorem lead_le (l : List Wr) (ep : Int) : lead l ep ≤ l.length := (List.takeWhile_sublist _).length_le
theorem lead_at {l : List Wr} {ep : Int} {k : Nat} (h : k < lead l ep) : ∃ x, l[k]? = some x ∧ x.ep = ep := by
  induction l generalizing k with
  | nil => simp [lead] at h
  | cons y l ih =>
    unfold lead at h ih
    by_cases e : y.ep = ep
    · rw [List.takeWhile_cons_of_pos (by simpa using e)] at h
      cases k with
      | zero => exact ⟨y, rfl, e⟩
      | succ k =>
        obtain ⟨x, h1, h2⟩ := ih (k := k) (by simpa using h)
        exact ⟨x, by simpa using h1, h2⟩
    · rw [List.takeWhile_cons_of_neg (by simpa using e)] at h
      simp at h
theorem lead_end {l : List Wr} {ep : Int} {x : Wr} (h : l[lead l ep]? = some x) : x.ep ≠ ep := by
  induction l with
  | nil => simp at h
  | cons y l ih =>
    unfold lead at h ih
    by_cases e : y.ep = ep
    · rw [List.takeWhile_cons_of_pos (by simpa using e)] at h
      exact ih (by simpa using h)
    · rw [List.takeWhile_cons_of_neg (by simpa using e)] at h
      simp at h
      subst h
      exact e
def barOk (s : LogS) (ep cnt : Int) : Prop := ∃ x l, s.ws = x :: l ∧ x.ep ≠ s.opn ∧ x.ep = ep ∧ (lead s.ws ep : Int) = cnt
set_option maxRecDepth 20000 in
set_option maxHeartbeats 4000000 in
theorem barrier_no (ep cnt : Int) (h : LogIn w G s A c b n) (hb : ¬ barOk s ep cnt) :
    Calls Try.prog 18 #[.pointer (some ⟨G, 0, none⟩), .int .i64 ep, .int .i64 cnt] w fun e w' => e = .returned (.tuple #[.slice none 0 0, .int .i64 101]) ∧ ∃ m, w' = w.drewN m := by
  obtain ⟨c0, c1, c2, c3, c4, c5, c6⟩ := h.cells
  clear c0 c1 c3 c4 c6
  cases hw : s.ws with
  | nil =>
    rw [hw] at c5
    clear h hw hb
    go_enter Try.func18, Try.ntmps18
    go_wp2
    go_quiet (fail)
    go_wp2
    go_ret2
    exact ⟨rfl, _, rfl⟩
  | cons x l =>
    obtain ⟨g, o, hA, hx⟩ := h.first hw
    have h0 : ((s.ws.length : Int) == 0) = false := by rw [beq_eq_false_iff_ne, hw]; simp only [List.length_cons]; omega
    have h1 : (0 : Int) < (s.ws.length : Int) := by rw [hw]; simp only [List.length_cons]; omega
    rw [hA] at c5
    by_cases e1 : x.ep = s.opn
    · rw [e1] at hx
      clear h hw hb e1
      go_enter Try.func18, Try.ntmps18
      go_wp2
      go_quiet (fail)
      go_wp2
      go_ret2
      exact ⟨rfl, _, rfl⟩
    have n1 : (x.ep == s.opn) = false := by rw [beq_eq_false_iff_ne]; exact e1
    by_cases e2 : x.ep = ep
    · have hne : (lead s.ws ep : Int) ≠ cnt := fun e => hb ⟨x, l, hw, e1, e2, e⟩
      have n3 : ((lead s.ws ep : Int) != cnt) = true := by rw [bne_iff_ne]; exact hne
      have n2 : (x.ep != ep) = false := by rw [bne_eq_false_iff_eq]; exact e2
      have Hr := Lib.hid h.row
      have Hw := Lib.hid hw
      have HA := Lib.hid hA
      have hll := lead_le s.ws ep
      have hlm : (s.ws.length : Int) ≤ 9223372036854775807 := by
        rcases h.row with ⟨_, h, _⟩ | ⟨_, _, _, _, h5, h6, _⟩
        · rw [h]; simp
        · unfold maxLen at h6; omega
      clear h hb hne hw hA e1 e2
      go_enter Try.func18, Try.ntmps18
      go_wp2
      go_quiet (fail)
      go_wp2
      go_loopw [8] (fun ct wr => ∃ k m : Nat, k ≤ lead s.ws ep ∧ ct = .int .i64 k ∧ wr = w.drewN m) (fun ct _ => lead s.ws ep - (intOf ct).toNat)
      case atStart => exact ⟨0, _, by omega, rfl, rfl⟩
      case round =>
        obtain ⟨k, m, hk, rfl, rfl⟩ := hrel
        by_cases hlt : k < lead s.ws ep
        · obtain ⟨y, hy, hye⟩ := lead_at hlt
          obtain ⟨g', o', hA', _, hcl⟩ := Hr.out.cell hy
          rw [HA.out] at hA'
          cases hA'
          have y2 : w.cell? ⟨g, o + k * 3 + 2, none⟩ = some (.int .i64 ep) := by rw [← hye]; exact (hcl 2 _ rfl).1
          have t1 : (k : Int) < (s.ws.length : Int) := by omega
          clear hcl hy hye
          go_wp2
          go_roundw
          case rel => exact ⟨k + 1, _, by omega, by go_num, rfl⟩
          case measure => simp [intOf]; omega
        · obtain rfl : k = lead s.ws ep := by omega
          by_cases hle : lead s.ws ep < s.ws.length
          · obtain ⟨y, hy⟩ : ∃ y, s.ws[lead s.ws ep]? = some y := ⟨_, List.getElem?_eq_getElem hle⟩
            have hye := lead_end hy
            obtain ⟨g', o', hA', _, hcl⟩ := Hr.out.cell hy
            rw [HA.out] at hA'
            cases hA'
            have y2 : w.cell? ⟨g, o + lead s.ws ep * 3 + 2, none⟩ = some (.int .i64 y.ep) := (hcl 2 _ rfl).1
            have t1 : (lead s.ws ep : Int) < (s.ws.length : Int) := by omega
            have t2 : (y.ep == ep) = false := by rw [beq_eq_false_iff_ne]; exact hye
            clear hcl hy hye
            go_wp2
            go_ret2
            exact ⟨rfl, _, rfl⟩
          · have t1 : ¬ (lead s.ws ep : Int) < (s.ws.length : Int) := by omega
            go_wp2
            go_ret2
            exact ⟨rfl, _, rfl⟩
    · have n2 : (x.ep != ep) = true := by rw [bne_iff_ne]; exact e2
      clear h hw hb e1 e2
      go_enter Try.func18, Try.ntmps18
      go_wp2
      go_quiet (fail)
      go_wp2
      go_ret2
      exact ⟨rfl, _, rfl⟩
theorem LogIn.drewN (h : LogIn w G s A c b n) (m : Nat) : LogIn (w.drewN m) G s A c b n := ⟨h.blk, h.row, h.map, h.std, h.ids, h.ok, h.le⟩
set_option maxRecDepth 20000 in
set_option maxHeartbeats 4000000 in
theorem barrier_yes (ep cnt : Int) (h : LogIn w G s A c b n) (hb : barOk s ep cnt) (hc : c ≤ 9223372036854775807) :
    Calls Try.prog 18 #[.pointer (some ⟨G, 0, none⟩), .int .i64 ep, .int .i64 cnt] w fun e w' => e = .returned (.tuple #[.slice A (lead s.ws ep) (lead s.ws ep), .int .i64 0]) ∧
      ∃ m, LogIn w' G { s with ws := s.ws.drop (lead s.ws ep) } (if c = lead s.ws ep then A else A.map (·.add (lead s.ws ep * 3))) (c - lead s.ws ep) b n ∧ Chg (fun k _ => k = G ∨ k = b) (w.drewN m) w' := by
  obtain ⟨c0, c1, c2, c3, c4, c5, c6⟩ := h.cells
  clear c0 c1 c3 c4 c6
  obtain ⟨x, l, hw, e1, e2, e3⟩ := hb
  have hll := lead_le s.ws ep
  have hL := fun m => leave_any (lead s.ws ep) (h.drewN m) hll hc
  obtain ⟨A1, hA1⟩ : ∃ A1 : Option Addr, A1 = if c = lead s.ws ep then A else A.map (·.add (lead s.ws ep * 3)) := ⟨_, rfl⟩
  obtain ⟨d1, hd1⟩ : ∃ c1, c1 = c - lead s.ws ep := ⟨_, rfl⟩
  rw [← hA1, ← hd1] at hL ⊢
  clear hA1 hd1
  obtain ⟨g, o, hA, hx⟩ := h.first hw
  have h0 : ((s.ws.length : Int) == 0) = false := by rw [beq_eq_false_iff_ne, hw]; simp only [List.length_cons]; omega
  have h1 : (0 : Int) < (s.ws.length : Int) := by rw [hw]; simp only [List.length_cons]; omega
  have n1 : (x.ep == s.opn) = false := by rw [beq_eq_false_iff_ne]; exact e1
  have n3 : ((lead s.ws ep : Int) != cnt) = false := by rw [bne_eq_false_iff_eq]; exact e3
  have n2 : (x.ep != ep) = false := by rw [bne_eq_false_iff_eq]; exact e2
  have Hr := Lib.hid h.row
  have HA := Lib.hid hA
  have HL := Lib.hid hL
  have hlm : (s.ws.length : Int) ≤ 9223372036854775807 := by
    rcases h.row with ⟨_, h, _⟩ | ⟨_, _, _, _, h5, h6, _⟩
    · rw [h]; simp
    · unfold maxLen at h6; omega
  clear h hw e1 e2 e3 hL
  rw [hA] at c5
  clear hA
  go_enter Try.func18, Try.ntmps18
  go_wp2
  go_quiet (fail)
  go_wp2
  go_loopw [8] (fun ct wr => ∃ k m : Nat, k ≤ lead s.ws ep ∧ ct = .int .i64 k ∧ wr = w.drewN m) (fun ct _ => lead s.ws ep - (intOf ct).toNat)
  case atStart => exact ⟨0, _, by omega, rfl, rfl⟩
  case round =>
    obtain ⟨k, m, hk, rfl, rfl⟩ := hrel
    by_cases hlt : k < lead s.ws ep
    · obtain ⟨y, hy, hye⟩ := lead_at hlt
      obtain ⟨g', o', hA', _, hcl⟩ := Hr.out.cell hy
      rw [HA.out] at hA'
      cases hA'
      have y2 : w.cell? ⟨g, o + k * 3 + 2, none⟩ = some (.int .i64 ep) := by rw [← hye]; exact (hcl 2 _ rfl).1
      have t1 : (k : Int) < (s.ws.length : Int) := by omega
      clear hcl hy hye
      go_wp2
      go_roundw
      case rel => exact ⟨k + 1, _, by omega, by go_num, rfl⟩
      case measure => simp [intOf]; omega
    · obtain rfl : k = lead s.ws ep := by omega
      by_cases hle : lead s.ws ep < s.ws.length
      · obtain ⟨y, hy⟩ : ∃ y, s.ws[lead s.ws ep]? = some y := ⟨_, List.getElem?_eq_getElem hle⟩
        have hye := lead_end hy
        obtain ⟨g', o', hA', _, hcl⟩ := Hr.out.cell hy
        rw [HA.out] at hA'
        cases hA'
        have y2 : w.cell? ⟨g, o + lead s.ws ep * 3 + 2, none⟩ = some (.int .i64 y.ep) := (hcl 2 _ rfl).1
        have t1 : (lead s.ws ep : Int) < (s.ws.length : Int) := by omega
        have t2 : (y.ep == ep) = false := by rw [beq_eq_false_iff_ne]; exact hye
        clear hcl hy hye
        go_wp2_with (go_at_call 32; refine (HL.out m).mono ?_; rintro e w1 ⟨rfl, h1, k1⟩)
        go_ret2
        exact ⟨rfl, m, h1, k1⟩
      · have t1 : ¬ (lead s.ws ep : Int) < (s.ws.length : Int) := by omega
        go_wp2_with (go_at_call 32; refine (HL.out m).mono ?_; rintro e w1 ⟨rfl, h1, k1⟩)
        go_ret2
        exact ⟨rfl, m, h1, k1⟩
theorem LogIn.cap (h : LogIn w G s A c b n) : c ≤ 9223372036854775807 := by
  rcases h.row with ⟨_, _, rfl⟩ | ⟨g, o, cs, _, _, hm, _⟩
  · omega
  · simpa only [maxLen] using hm
theorem barrier_any (ep cnt : Int) (h : LogAt w G s F) (hb : barOk s ep cnt) :
    Calls Try.prog 18 #[.pointer (some ⟨G, 0, none⟩), .int .i64 ep, .int .i64 cnt] w fun e w' => ∃ A F', e = .returned (.tuple #[.slice A (lead s.ws ep) (lead s.ws ep), .int .i64 0]) ∧
      LogAt w' G { s with ws := s.ws.drop (lead s.ws ep) } F' ∧ Chg F w w' ∧ (∀ k i, F' k i → F k i) ∧ Handed w' F F' A (lead s.ws ep) (s.ws.take (lead s.ws ep)) := by
  obtain ⟨A, c, b, n, h, hF⟩ := h
  refine (barrier_yes ep cnt h hb h.cap).mono fun e w' ⟨he, m, h', k⟩ => ?_
  obtain ⟨F', r1, r2, r3, r4⟩ := LogAt.left hF h (lead_le _ _) (s' := { s with ws := s.ws.drop (lead s.ws ep) }) rfl h' (((Chg.refl _ w).drewN m).trans k fun _ _ _ h => h)
  exact ⟨A, F', he, r1, r2, r3, r4⟩
end
end Go.Proofs.Ytagkhhoimgighaa
