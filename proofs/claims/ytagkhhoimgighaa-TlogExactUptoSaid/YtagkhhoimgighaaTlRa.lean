/- The document's log: of, find, New, Close, by contract. -/
import Derived.Test.YtagkhhoimgighaaTlR
namespace Go.Proofs.Ytagkhhoimgighaa
open Go.RowKit
set_option linter.unusedVariables false
set_option linter.unusedSimpArgs false
def posI (l : List Ln) (id : Int) : Int := match posR l id with | some k => (k : Int) | none => -1
theorem posR_at {l : List Ln} {id : Int} {k : Nat} {x : Ln} (hx : l[k]? = some x) (hf : (x.1 == id) = true) (hno : ∀ y ∈ l.take k, (y.1 == id) = false) : posR l id = some k := by
  unfold posR
  rw [List.findIdx?_eq_some_iff_getElem]
  obtain ⟨hk, e⟩ := List.getElem?_eq_some_iff.1 hx
  refine ⟨hk, by rw [e]; exact hf, fun j hj => ?_⟩
  have := hno l[j] (by
    have h1 : (l.take k)[j]? = some l[j] := by rw [List.getElem?_take, if_pos hj]; exact List.getElem?_eq_getElem (by omega)
    exact List.mem_of_getElem? h1)
  rw [this]
  decide
theorem takeL_no {l : List Ln} {id : Int} {k : Nat} {x : Ln} (hx : l[k]? = some x) (hf : (x.1 == id) = false) (hno : ∀ y ∈ l.take k, (y.1 == id) = false) : ∀ y ∈ l.take (k + 1), (y.1 == id) = false := fun q hq => by
  rw [List.take_add_one, hx] at hq
  rcases List.mem_append.1 hq with h | h
  · exact hno q h
  · simp at h; subst h; exact hf
theorem posR_no {l : List Ln} {id : Int} (h : ∀ y ∈ l, (y.1 == id) = false) : posR l id = none := List.findIdx?_eq_none_iff.2 h
set_option maxRecDepth 20000 in
set_option maxHeartbeats 2000000 in
theorem rof_any (R pn c : Nat) (A : Option Addr) (P : List Ln) (e : Int) (w : World) (hP : P.length = pn) (hn : pn ≤ 9223372036854775806) (hc : w.cell? ⟨R, 0, none⟩ = some (.slice A pn c)) (h : RdS encL 4 w A P) :
    Calls Try.prog 48 #[.pointer (some ⟨R, 0, none⟩), .int .i64 e] w fun r w' => r = .returned (.int .i64 (ofR P e : Int)) ∧ w = w' := by
  have HR := Lib.hid h
  have HP := Lib.hid hP
  clear h hP
  go_enter Try.func48, Try.ntmps48
  go_wp2_with fail
  go_loopw [5, 6] (fun t5 t6 wr => ∃ k m : Nat, k ≤ pn ∧ t6 = .int .i64 (k : Int) ∧ wr = w ∧ t5 = .int .i64 (m : Int) ∧ m ≤ k ∧ Hid (ofR (P.take k) e = m)) (fun _ t6 _ => pn - (intOf t6).toNat)
  case atStart => exact ⟨0, 0, Nat.zero_le _, rfl, rfl, rfl, Nat.le_refl _, Lib.hid rfl⟩
  case round =>
    obtain ⟨k, m, hk, rfl, rfl, rfl, hmk, hm⟩ := hrel
    by_cases hlk : k < pn
    · have hlk' : (k : Int) < (pn : Int) := by omega
      obtain ⟨g, off, p, hA, hg, hx, hcell⟩ := HR.out.at_ (show k < P.length by rw [HP.out]; exact hlk)
      subst hA
      have x2 : wr.cell? ⟨g, off + k * 4 + 2, none⟩ = some (.int .i64 p.2.2.1) := hcell 2 _ rfl
      have hs := ofR_take e hx
      rw [hm.out] at hs
      clear hcell hx
      cases h2 : (p.2.2.1 == e) with
      | false =>
        rw [h2] at hs
        have hf := Lib.hid (show ofR (P.take (k + 1)) e = m from hs)
        clear hs
        go_wp2
        go_roundw
        case rel => exact ⟨k + 1, m, by omega, by go_num, by first | rfl | trivial, rfl, by omega, hf⟩
        case measure => simp [intOf]; omega
      | true =>
        rw [h2] at hs
        have hf := Lib.hid (show ofR (P.take (k + 1)) e = m + 1 from hs)
        clear hs
        go_wp2
        go_roundw
        case rel => exact ⟨k + 1, m + 1, by omega, by go_num, by first | rfl | trivial, by go_num, by omega, hf⟩
        case measure => simp [intOf]; omega
    · obtain rfl : k = pn := by omega
      have hf := Lib.hid (show ofR P e = m by have := hm.out; rwa [List.take_of_length_le (by rw [HP.out]; exact Nat.le_refl _)] at this)
      go_wp2
      go_ret
      exact ⟨by rw [hf.out]; rfl, rfl⟩
set_option maxRecDepth 20000 in
set_option maxHeartbeats 2000000 in
theorem rfind_any (R pn c : Nat) (A : Option Addr) (P : List Ln) (id : Int) (w : World) (hP : P.length = pn) (hn : pn ≤ 9223372036854775806) (hc : w.cell? ⟨R, 0, none⟩ = some (.slice A pn c)) (h : RdS encL 4 w A P) :
    Calls Try.prog 47 #[.pointer (some ⟨R, 0, none⟩), .int .i64 id] w fun r w' => r = .returned (.int .i64 (posI P id)) ∧ w = w' := by
  have HR := Lib.hid h
  have HP := Lib.hid hP
  clear h hP
  go_enter Try.func47, Try.ntmps47
  go_wp2_with fail
  go_loopw [5] (fun t5 wr => ∃ k : Nat, k ≤ pn ∧ t5 = .int .i64 (k : Int) ∧ wr = w ∧ Hid (∀ y ∈ P.take k, (y.1 == id) = false)) (fun t5 _ => pn - (intOf t5).toNat)
  case atStart => exact ⟨0, Nat.zero_le _, rfl, rfl, Lib.hid (by simp)⟩
  case round =>
    obtain ⟨k, hk, rfl, rfl, hno⟩ := hrel
    by_cases hlk : k < pn
    · have hlk' : (k : Int) < (pn : Int) := by omega
      obtain ⟨g, off, p, hA, hg, hx, hcell⟩ := HR.out.at_ (show k < P.length by rw [HP.out]; exact hlk)
      subst hA
      have x0 : wr.cell? ⟨g, off + k * 4, none⟩ = some (.int .i64 p.1) := hcell 0 _ rfl
      have HX := Lib.hid hx
      clear hcell hx
      cases h1 : (p.1 == id) with
      | false =>
        have hf := Lib.hid (takeL_no HX.out h1 hno.out)
        go_wp2
        go_roundw
        case rel => exact ⟨k + 1, by omega, by go_num, by first | rfl | trivial, hf⟩
        case measure => simp [intOf]; omega
      | true =>
        have hf := Lib.hid (show posI P id = (k : Int) by unfold posI; rw [posR_at HX.out h1 hno.out])
        go_wp2
        go_ret
        exact ⟨by rw [hf.out]; rfl, rfl⟩
    · obtain rfl : k = pn := by omega
      have hf := Lib.hid (show posI P id = -1 by
        have := hno.out
        rw [List.take_of_length_le (by rw [HP.out]; exact Nat.le_refl _)] at this
        unfold posI
        rw [posR_no this])
      go_wp2
      go_ret
      exact ⟨by rw [hf.out]; rfl, rfl⟩
theorem rnew_yes (limit width : Int) (w : World) (h : goodB limit width) : Calls Try.prog 33 #[.int .i64 limit, .int .i64 width] w fun e w' =>
    ∃ (R : Nat) (F : Nat → Prop), e = .returned (.tuple #[.pointer (some ⟨R, 0, none⟩), .int .i64 0]) ∧ RefAt w' R ⟨[], 1, limit, width⟩ F ∧ Below w.heap.size w w' ∧ (∀ k, F k → w.heap.size ≤ k) := by
  obtain ⟨h1, h2, h3, h4⟩ := h
  have a1 : ¬ limit < 1 := by omega
  have a2 : ¬ (1024 : Int) < limit := by omega
  have a3 : ¬ width < 1 := by omega
  have a4 : ¬ (64 : Int) < width := by omega
  go_enter Try.func33, Try.ntmps33
  go_wp2
  go_ret2
  refine ⟨w.heap.size, rfl, refFp w.heap.size none, ⟨none, 0, ⟨Blk.new w _ _, GSl.nil_, .inl rfl⟩, fun _ => Iff.rfl⟩, (Below.refl _ _).alloc (Nat.le_refl _) _, fun k h => ?_⟩
  rcases h with rfl | ⟨a, e, _⟩
  · exact Nat.le_refl _
  · cases e
theorem rnew_no (limit width : Int) (w : World) (h : ¬ goodB limit width) : Calls Try.prog 33 #[.int .i64 limit, .int .i64 width] w fun e w' => e = .returned (.tuple #[.pointer none, .int .i64 1]) ∧ w = w' := by
  have h2 : limit < 1 ∨ (1 ≤ limit ∧ 1024 < limit) ∨ (1 ≤ limit ∧ limit ≤ 1024 ∧ width < 1) ∨ (1 ≤ limit ∧ limit ≤ 1024 ∧ 1 ≤ width ∧ 64 < width) := by unfold goodB at h; omega
  clear h
  rcases h2 with h1 | ⟨h1, h2⟩ | ⟨h1, h2, h3⟩ | ⟨h1, h2, h3, h4⟩
  all_goals
    go_enter Try.func33, Try.ntmps33
    go_wp2
    go_ret2
    exact ⟨rfl, rfl⟩
section
variable {w w' : World} {R : Nat} {r : RefT} {F : Nat → Prop}
/-- one of the log's own numbers is written -/
theorem RefIn.setNow {A : Option Addr} {c : Nat} (h : RefIn w R r A c) (n : Int) : RefIn (w.setCell ⟨R, 1, none⟩ (.int .i64 n)) R { r with now := n } A c :=
  ⟨h.blk.set_ 1 _, h.row.chg (Chg.setCell (fun k _ => k = R) w (g := R) (i := 1) rfl (.int .i64 n)) encL_len (fun g i hs e => by
    obtain ⟨cs, hb⟩ := line_blk h.row (slFp_blk hs)
    exact blk_type_ne hb h.blk (by decide) e), h.loc⟩
set_option maxRecDepth 20000 in
set_option maxHeartbeats 2000000 in
theorem rclose_any (h : RefAt w R r F) (hl : r.lines.length ≤ 1024) (hb : 1 ≤ r.now ∧ r.now < 9223372036854775807) :
    Calls Try.prog 35 #[.pointer (some ⟨R, 0, none⟩)] w fun e w' => e = .returned (.tuple #[.int .i64 r.now, .int .i64 (ofR r.lines r.now : Int), .bool (decide (ofR r.lines r.now ≠ 0))]) ∧ RefAt w' R (rCloseT r) F ∧ Chg (fun k _ => F k) w w' := by
  obtain ⟨A, c, h, hF⟩ := h
  obtain ⟨pn, hpn⟩ : ∃ pn, r.lines.length = pn := ⟨_, rfl⟩
  rw [hpn] at hl
  have c0 : w.cell? ⟨R, 0, none⟩ = some (.slice A pn c) := by rw [← hpn]; exact h.blk.cell 0
  have c1 : w.cell? ⟨R, 1, none⟩ = some (.int .i64 r.now) := h.blk.cell 1
  have f1 := h.blk.frozen 1
  have GF := Lib.hid (rof_any R pn c A r.lines r.now w hpn (by omega) c0 h.row.rds)
  obtain ⟨q, hq⟩ : ∃ q, ofR r.lines r.now = q := ⟨_, rfl⟩
  have hqb : q ≤ 1024 := by rw [← hq]; exact Nat.le_trans (ofR_le _ _) (by omega)
  rw [hq] at GF ⊢
  have H := Lib.hid h
  have HF := Lib.hid hF
  have HQ := Lib.hid hq
  clear h hF hq hpn
  by_cases h0 : q = 0
  · subst h0
    have HS := Lib.hid (show rCloseT r = r by unfold rCloseT; rw [if_pos HQ.out])
    go_enter Try.func35, Try.ntmps35
    go_wp2_with fail
    refine GF.out.mono ?_
    rintro e w' ⟨rfl, rfl⟩
    go_wp2
    go_ret3
    exact ⟨rfl, by rw [HS.out]; exact ⟨A, c, H.out, HF.out⟩, Chg.refl _ _⟩
  · have HS := Lib.hid (show rCloseT r = { r with now := r.now + 1 } by unfold rCloseT; rw [if_neg (by rw [HQ.out]; exact h0)])
    have hne : ((q : Int) == 0) = false := by rw [beq_eq_false_iff_ne]; omega
    have hd := Lib.hid (show decide (q ≠ 0) = true from decide_eq_true h0)
    have HN := Lib.hid (H.out.setNow (r.now + 1))
    have KN := Lib.hid (Chg.setCell (fun k _ => F k) w (g := R) (i := 1) ((HF.out R).2 (.inl rfl)) (.int .i64 (r.now + 1)))
    go_enter Try.func35, Try.ntmps35
    go_wp2_with fail
    refine GF.out.mono ?_
    rintro e w' ⟨rfl, rfl⟩
    go_wp2
    go_ret3
    exact ⟨by rw [hd.out]; rfl, by rw [HS.out]; exact ⟨A, c, HN.out, HF.out⟩, KN.out⟩
end
end Go.Proofs.Ytagkhhoimgighaa
