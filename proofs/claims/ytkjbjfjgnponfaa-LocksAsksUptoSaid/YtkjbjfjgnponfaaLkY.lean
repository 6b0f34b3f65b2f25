/- The document's table of locks in memory: there, find, first, goes, Waiting, by contract. -/
import Derived.Test.YtkjbjfjgnponfaaLkX
namespace Go.Proofs.Ytkjbjfjgnponfaa
open Go.RowKit
set_option linter.unusedSimpArgs false
set_option linter.unusedVariables false
theorem encR_len (p : RP) : (encR p).length = 5 := rfl
theorem encR_one (p : RP) : ∀ v ∈ encR p, v.oneCell' = true := fun v hv => by
  simp only [encR, List.mem_cons, List.not_mem_nil, or_false] at hv
  rcases hv with rfl | rfl | rfl | rfl | rfl <;> rfl
theorem rTy : SlTy Try.prog 99 104 5 40 := SlTy.mk' (z := .agg #[.int .i64 0, .int .i64 0, .int .i64 0, .bool false, .int .i64 0]) Try.underlying99 (by kernel_rfl) rfl
/-- the document's table in memory -/
structure RefS (base : Nat) (wr : World) (R n : Nat) (most : Int) (A : Option Addr) (c : Nat) (P : List RP) (turns : Int) : Prop where
  blk : Blk wr R 101 #[.int .i64 (n : Int), .int .i64 most, .slice A P.length c, .int .i64 turns]
  gsl : GSl encR 5 104 wr A c P
  loc : A = none ∨ ∃ g, A = some ⟨g, 0, none⟩ ∧ base ≤ g
  hR : base ≤ R
def RFp (R : Nat) (A : Option Addr) (k : Nat) : Prop := k = R ∨ ∃ a, A = some a ∧ a.block = k
section
variable {base R n c : Nat} {wr wr' : World} {most turns : Int} {A : Option Addr} {P : List RP}
theorem RefS.typ (h : RefS base wr R n most A c P turns) {k : Nat} (hk : RFp R A k) : base ≤ k ∧ ∃ t cs, Blk wr k t cs ∧ (t = 101 ∨ t = 104) := by
  rcases hk with rfl | ⟨a, e, rfl⟩
  · exact ⟨h.hR, _, _, h.blk, .inl rfl⟩
  · rcases h.loc with h1 | ⟨g, h1, hb⟩
    · rw [h1] at e; cases e
    · rw [h1] at e; cases e
      rcases h.gsl with ⟨h2, _⟩ | ⟨g2, o2, cs2, h2, _, _, h3, _⟩
      · rw [h1] at h2; cases h2
      · rw [h1] at h2; cases h2; exact ⟨hb, _, cs2, h3, .inr rfl⟩
theorem RefS.lt (h : RefS base wr R n most A c P turns) {k : Nat} (hk : RFp R A k) : base ≤ k ∧ k < wr.heap.size := by
  obtain ⟨hb, _, _, h2, _⟩ := h.typ hk
  exact ⟨hb, h2.lt⟩
theorem RefS.keep {F : Nat → Nat → Prop} (h : RefS base wr R n most A c P turns) (hc : Chg F wr wr') (hn : ∀ k, RFp R A k → ∀ i, ¬ F k i) : RefS base wr' R n most A c P turns :=
  ⟨hc.blk h.blk (hn R (.inl rfl)), h.gsl.chg hc encR_len fun g i hs hf => by obtain ⟨o, e, _⟩ := hs; exact hn g (.inr ⟨_, e, rfl⟩) i hf, h.loc, h.hR⟩
theorem RefS.below (h : RefS base wr R n most A c P turns) (hB : Below wr.heap.size wr wr') : RefS base wr' R n most A c P turns := h.keep (Chg.of_below (fun _ _ => False) hB) fun _ _ _ h => h
theorem RefS.bel (h : RefS base wr R n most A c P turns) (hC : Chg (fun k _ => RFp R A k) wr wr') : Below base wr wr' := hC.below (Nat.le_trans h.hR (Nat.le_of_lt h.blk.lt)) fun k i hk hf => by have := (h.lt hf).1; omega
/-- another block stays -/
theorem RefS.keepB (h : RefS base wr R n most A c P turns) (hC : Chg (fun k _ => RFp R A k) wr wr') {g t : Nat} {cs : Array Value} (hb : Blk wr g t cs) (h1 : t ≠ 101) (h2 : t ≠ 104) : Blk wr' g t cs := hC.blk hb fun j hf => by
  obtain ⟨_, t2, cs2, hb2, hty⟩ := h.typ hf
  rcases hty with rfl | rfl
  · exact blk_type_ne hb hb2 h1 rfl
  · exact blk_type_ne hb hb2 h2 rfl
theorem RefS.lower {b' : Nat} (h : RefS base wr R n most A c P turns) (hb : b' ≤ base) : RefS b' wr R n most A c P turns := ⟨h.blk, h.gsl, h.loc.imp id fun ⟨g, e, h2⟩ => ⟨g, e, Nat.le_trans hb h2⟩, Nat.le_trans hb h.hR⟩
end
theorem there_any (R n : Nat) (x : Int) (w : World) (hc : w.cell? ⟨R, 0, none⟩ = some (.int .i64 (n : Int))) :
    Calls Try.prog 57 #[.pointer (some ⟨R, 0, none⟩), .int .i64 x] w fun e w' => e = .returned (.bool (decide (0 ≤ x) && decide (x < (n : Int)))) ∧ w = w' := by
  by_cases h0 : 0 ≤ x
  · go_enter Try.func57, Try.ntmps57
    go_wp2
    all_goals (go_ret; exact ⟨by simp [*], rfl⟩)
  · go_enter Try.func57, Try.ntmps57
    go_wp2
    all_goals (go_ret; exact ⟨by rw [decide_eq_false (show ¬ 0 ≤ x by omega)]; rfl, rfl⟩)
theorem idxI_at {P : List RP} {f : RP → Bool} {k : Nat} {p : RP} (hp : P[k]? = some p) (hf : f p = true) (hno : ∀ q ∈ P.take k, f q = false) : idxI P f = (k : Int) := by
  unfold idxI
  have : P.findIdx? f = some k := by
    rw [List.findIdx?_eq_some_iff_getElem]
    obtain ⟨hk, e⟩ := List.getElem?_eq_some_iff.1 hp
    refine ⟨hk, by rw [e]; exact hf, fun j hj => ?_⟩
    have := hno P[j] (by
      have h1 : (P.take k)[j]? = some P[j] := by rw [List.getElem?_take, if_pos hj]; exact List.getElem?_eq_getElem (by omega)
      exact List.mem_of_getElem? h1)
    rw [this]
    decide
  rw [this]
theorem take_no {P : List RP} {f : RP → Bool} {k : Nat} {p : RP} (hp : P[k]? = some p) (hf : f p = false) (hno : ∀ q ∈ P.take k, f q = false) : ∀ q ∈ P.take (k + 1), f q = false := fun q hq => by
  rw [List.take_add_one, hp] at hq
  rcases List.mem_append.1 hq with h | h
  · exact hno q h
  · simp at h; subst h; exact hf
theorem idxI_none {P : List RP} {f : RP → Bool} (h : ∀ q ∈ P, f q = false) : idxI P f = -1 := by
  unfold idxI
  have : P.findIdx? f = none := List.findIdx?_eq_none_iff.2 h
  rw [this]
set_option maxHeartbeats 2000000 in
theorem rfind_any (R pn c : Nat) (A : Option Addr) (P : List RP) (e o : Int) (w : World) (hP : P.length = pn) (hn : pn ≤ 9223372036854775807) (hc : w.cell? ⟨R, 2, none⟩ = some (.slice A pn c)) (h : RdS encR 5 w A P) :
    Calls Try.prog 58 #[.pointer (some ⟨R, 0, none⟩), .int .i64 e, .int .i64 o] w fun r w' => r = .returned (.int .i64 (idxI P (ownB e o))) ∧ w = w' := by
  have HR := Lib.hid h
  have HP := Lib.hid hP
  clear h hP
  go_enter Try.func58, Try.ntmps58
  go_wp2_with fail
  go_loopw [7] (fun t7 wr => ∃ k : Nat, k ≤ pn ∧ t7 = .int .i64 (k : Int) ∧ wr = w ∧ Hid (∀ p ∈ P.take k, ownB e o p = false)) (fun t7 _ => pn - (intOf t7).toNat)
  case atStart => exact ⟨0, Nat.zero_le _, rfl, rfl, Lib.hid (by simp)⟩
  case round =>
    obtain ⟨k, hk, rfl, rfl, hno⟩ := hrel
    by_cases hlk : k < pn
    · have hlk' : (k : Int) < (pn : Int) := by omega
      obtain ⟨g, off, p, hA, hg, hx, hcell⟩ := HR.out.at_ (show k < P.length by rw [HP.out]; exact hlk)
      subst hA
      have x0 : wr.cell? ⟨g, off + k * 5, none⟩ = some (.int .i64 p.1) := hcell 0 _ rfl
      have x2 : wr.cell? ⟨g, off + k * 5 + 2, none⟩ = some (.int .i64 p.2.2.1) := hcell 2 _ rfl
      have HX := Lib.hid hx
      clear hcell hx
      cases h1 : (p.1 == e) with
      | false =>
        have hf := Lib.hid (show ownB e o p = false by unfold ownB; rw [h1]; rfl)
        go_wp2
        go_roundw
        case rel => exact ⟨k + 1, by omega, by go_num, by first | rfl | trivial, Lib.hid (take_no HX.out hf.out hno.out)⟩
        case measure => simp [intOf]; omega
      | true =>
        cases h2 : (p.2.2.1 == o) with
        | false =>
          have hf := Lib.hid (show ownB e o p = false by unfold ownB; rw [h1, h2]; rfl)
          go_wp2
          go_roundw
          case rel => exact ⟨k + 1, by omega, by go_num, by first | rfl | trivial, Lib.hid (take_no HX.out hf.out hno.out)⟩
          case measure => simp [intOf]; omega
        | true =>
          have hf := Lib.hid (idxI_at (f := ownB e o) HX.out (by unfold ownB; rw [h1, h2]; rfl) hno.out)
          go_wp2
          go_ret
          exact ⟨by rw [hf.out]; rfl, rfl⟩
    · obtain rfl : k = pn := by omega
      have hf := Lib.hid (idxI_none (P := P) (f := ownB e o) (by have := hno.out; rwa [List.take_of_length_le (by rw [HP.out]; exact Nat.le_refl _)] at this))
      go_wp2
      go_ret
      exact ⟨by rw [hf.out]; rfl, rfl⟩
set_option maxHeartbeats 2000000 in
theorem rfirst_any (R pn c : Nat) (A : Option Addr) (P : List RP) (e : Int) (w : World) (hP : P.length = pn) (hn : pn ≤ 9223372036854775807) (hc : w.cell? ⟨R, 2, none⟩ = some (.slice A pn c)) (h : RdS encR 5 w A P) :
    Calls Try.prog 60 #[.pointer (some ⟨R, 0, none⟩), .int .i64 e] w fun r w' => r = .returned (.int .i64 (idxI P (waitB e))) ∧ w = w' := by
  have HR := Lib.hid h
  have HP := Lib.hid hP
  clear h hP
  go_enter Try.func60, Try.ntmps60
  go_wp2_with fail
  go_loopw [5] (fun t7 wr => ∃ k : Nat, k ≤ pn ∧ t7 = .int .i64 (k : Int) ∧ wr = w ∧ Hid (∀ p ∈ P.take k, waitB e p = false)) (fun t7 _ => pn - (intOf t7).toNat)
  case atStart => exact ⟨0, Nat.zero_le _, rfl, rfl, Lib.hid (by simp)⟩
  case round =>
    obtain ⟨k, hk, rfl, rfl, hno⟩ := hrel
    by_cases hlk : k < pn
    · have hlk' : (k : Int) < (pn : Int) := by omega
      obtain ⟨g, off, p, hA, hg, hx, hcell⟩ := HR.out.at_ (show k < P.length by rw [HP.out]; exact hlk)
      subst hA
      have x0 : wr.cell? ⟨g, off + k * 5, none⟩ = some (.int .i64 p.1) := hcell 0 _ rfl
      have x3 : wr.cell? ⟨g, off + k * 5 + 3, none⟩ = some (.bool p.2.2.2.1) := hcell 3 _ rfl
      have HX := Lib.hid hx
      clear hcell hx
      cases h1 : (p.1 == e) with
      | false =>
        have hf := Lib.hid (show waitB e p = false by unfold waitB; rw [h1]; rfl)
        go_wp2
        go_roundw
        case rel => exact ⟨k + 1, by omega, by go_num, by first | rfl | trivial, Lib.hid (take_no HX.out hf.out hno.out)⟩
        case measure => simp [intOf]; omega
      | true =>
        cases h2 : p.2.2.2.1 with
        | true =>
          have hf := Lib.hid (show waitB e p = false by unfold waitB; rw [h1, h2]; rfl)
          rw [h2] at x3
          clear h2
          go_wp2
          go_roundw
          case rel => exact ⟨k + 1, by omega, by go_num, by first | rfl | trivial, Lib.hid (take_no HX.out hf.out hno.out)⟩
          case measure => simp [intOf]; omega
        | false =>
          have hf := Lib.hid (idxI_at (f := waitB e) HX.out (by unfold waitB; rw [h1, h2]; rfl) hno.out)
          rw [h2] at x3
          clear h2
          go_wp2
          go_ret
          exact ⟨by rw [hf.out]; rfl, rfl⟩
    · obtain rfl : k = pn := by omega
      have hf := Lib.hid (idxI_none (P := P) (f := waitB e) (by have := hno.out; rwa [List.take_of_length_le (by rw [HP.out]; exact Nat.le_refl _)] at this))
      go_wp2
      go_ret
      exact ⟨by rw [hf.out]; rfl, rfl⟩
def blocksB (e mode : Int) (p : RP) : Bool := p.1 == e && p.2.2.2.1 && (p.2.1 == 2 || mode == 2)
theorem goesR_eq (P : List RP) (e mode : Int) : goesR P e mode = !(P.any (blocksB e mode)) := rfl
set_option maxHeartbeats 4000000 in
theorem rgoes_any (R pn c : Nat) (A : Option Addr) (P : List RP) (e mode : Int) (w : World) (hP : P.length = pn) (hn : pn ≤ 9223372036854775807) (hc : w.cell? ⟨R, 2, none⟩ = some (.slice A pn c)) (hR : R < w.heap.size) (h : RdS encR 5 w A P) :
    Calls Try.prog 59 #[.pointer (some ⟨R, 0, none⟩), .int .i64 e, .int .i64 mode] w fun r w' => r = .returned (.bool (goesR P e mode)) ∧ Below w.heap.size w w' := by
  have HR := Lib.hid h
  have HP := Lib.hid hP
  have HC := Lib.hid hc
  clear h hP
  go_enter Try.func59, Try.ntmps59
  go_wp2_with fail
  go_loopw [7] (fun t7 wr => ∃ k : Nat, k ≤ pn ∧ t7 = .int .i64 (k : Int) ∧ Hid (Below w.heap.size w wr) ∧ Hid (∀ p ∈ P.take k, blocksB e mode p = false)) (fun t7 _ => pn - (intOf t7).toNat)
  case atStart => exact ⟨0, Nat.zero_le _, rfl, Lib.hid (Below.refl _ _), Lib.hid (by simp)⟩
  case round =>
    clear hc
    obtain ⟨k, hk, rfl, hB, hno⟩ := hrel
    have hc : wr.cell? ⟨R, 2, none⟩ = some (.slice A pn c) := (hB.out.cell (p := ⟨R, 2, none⟩) hR).trans HC.out
    by_cases hlk : k < pn
    · have hlk' : (k : Int) < (pn : Int) := by omega
      obtain ⟨g, off, p, hA, hg, hx, hcell⟩ := (HR.out.below hB.out).at_ (show k < P.length by rw [HP.out]; exact hlk)
      subst hA
      obtain ⟨pe, pm, po, ph, pt⟩ := p
      have x0 : wr.cell? ⟨g, off + k * 5, none⟩ = some (.int .i64 pe) := hcell 0 _ rfl
      have x1 : wr.cell? ⟨g, off + k * 5 + 1, none⟩ = some (.int .i64 pm) := hcell 1 _ rfl
      have x2 : wr.cell? ⟨g, off + k * 5 + 2, none⟩ = some (.int .i64 po) := hcell 2 _ rfl
      have x3 : wr.cell? ⟨g, off + k * 5 + 3, none⟩ = some (.bool ph) := hcell 3 _ rfl
      have x4 : wr.cell? ⟨g, off + k * 5 + 4, none⟩ = some (.int .i64 pt) := hcell 4 _ rfl
      have HX := Lib.hid hx
      have B1 := Lib.hid (hB.out.alloc hB.out.size (.cells #[.int .i64 pe, .int .i64 pm, .int .i64 po, .bool ph, .int .i64 pt] 104))
      clear hcell hx
      cases hb : blocksB e mode (pe, pm, po, ph, pt) with
      | false =>
        have hf := Lib.hid hb
        have hb2 : (pe == e && ph && (pm == 2 || mode == 2)) = false := hb
        clear hb
        cases h1 : (pe == e) with
        | false =>
          clear hb2
          go_wp2
          go_roundw
          case rel => exact ⟨k + 1, by omega, by go_num, B1, Lib.hid (take_no HX.out hf.out hno.out)⟩
          case measure => simp [intOf]; omega
        | true =>
          cases ph with
          | false =>
            clear hb2
            go_wp2
            go_roundw
            case rel => exact ⟨k + 1, by omega, by go_num, B1, Lib.hid (take_no HX.out hf.out hno.out)⟩
            case measure => simp [intOf]; omega
          | true =>
            rw [h1] at hb2
            have h4 : (pm == 2) = false ∧ (mode == 2) = false := by
              rw [Bool.and_self, Bool.true_and, Bool.or_eq_false_iff] at hb2
              exact hb2
            obtain ⟨h5, h6⟩ := h4
            clear hb2
            go_wp2
            go_roundw
            case rel => exact ⟨k + 1, by omega, by go_num, B1, Lib.hid (take_no HX.out hf.out hno.out)⟩
            case measure => simp [intOf]; omega
      | true =>
        have hf := Lib.hid (show goesR P e mode = false by
          rw [goesR_eq, Bool.not_eq_false', List.any_eq_true]
          exact ⟨_, List.mem_of_getElem? HX.out, hb⟩)
        have hb2 : (pe == e && ph && (pm == 2 || mode == 2)) = true := hb
        rw [Bool.and_eq_true, Bool.and_eq_true] at hb2
        obtain ⟨⟨h1, h2⟩, h3⟩ := hb2
        subst h2
        clear hb
        cases h5 : (pm == 2) with
        | true =>
          clear h3
          go_wp2
          go_ret
          exact ⟨by rw [hf.out]; rfl, B1.out⟩
        | false =>
          rw [h5, Bool.false_or] at h3
          go_wp2
          go_ret
          exact ⟨by rw [hf.out]; rfl, B1.out⟩
    · obtain rfl : k = pn := by omega
      have hf := Lib.hid (show goesR P e mode = true by
        rw [goesR_eq, Bool.not_eq_true', List.any_eq_false]
        intro p hp
        have := hno.out
        rw [List.take_of_length_le (by rw [HP.out]; exact Nat.le_refl _)] at this
        rw [this p hp]
        decide)
      go_wp2
      go_ret
      exact ⟨by rw [hf.out]; rfl, hB.out⟩
set_option maxHeartbeats 2000000 in
theorem rwaiting_any (R pn c : Nat) (A : Option Addr) (P : List RP) (w : World) (hP : P.length = pn) (hn : pn ≤ 9223372036854775806) (hc : w.cell? ⟨R, 2, none⟩ = some (.slice A pn c)) (h : RdS encR 5 w A P) :
    Calls Try.prog 48 #[.pointer (some ⟨R, 0, none⟩)] w fun r w' => r = .returned (.int .i64 ((P.filter fun p => !p.2.2.2.1).length : Int)) ∧ w = w' := by
  have HR := Lib.hid h
  have HP := Lib.hid hP
  clear h hP
  go_enter Try.func48, Try.ntmps48
  go_wp2_with fail
  go_loopw [3, 4] (fun t3 t4 wr => ∃ k m : Nat, k ≤ pn ∧ t4 = .int .i64 (k : Int) ∧ wr = w ∧ t3 = .int .i64 (m : Int) ∧ m ≤ k ∧ Hid (((P.take k).filter fun p => !p.2.2.2.1).length = m)) (fun _ t4 _ => pn - (intOf t4).toNat)
  case atStart => exact ⟨0, 0, Nat.zero_le _, rfl, rfl, rfl, Nat.le_refl _, Lib.hid (by simp)⟩
  case round =>
    obtain ⟨k, m, hk, rfl, rfl, rfl, hmk, hm⟩ := hrel
    by_cases hlk : k < pn
    · have hlk' : (k : Int) < (pn : Int) := by omega
      obtain ⟨g, off, p, hA, hg, hx, hcell⟩ := HR.out.at_ (show k < P.length by rw [HP.out]; exact hlk)
      subst hA
      have x3 : wr.cell? ⟨g, off + k * 5 + 3, none⟩ = some (.bool p.2.2.2.1) := hcell 3 _ rfl
      have HX := Lib.hid hx
      clear hcell hx
      cases h2 : p.2.2.2.1 with
      | true =>
        have hf := Lib.hid (show ((P.take (k + 1)).filter fun p => !p.2.2.2.1).length = m by
          rw [List.take_add_one, HX.out, List.filter_append, List.length_append, hm.out]
          simp [h2])
        rw [h2] at x3
        clear h2
        go_wp2
        go_roundw
        case rel => exact ⟨k + 1, m, by omega, by go_num, by first | rfl | trivial, rfl, by omega, hf⟩
        case measure => simp [intOf]; omega
      | false =>
        have hf := Lib.hid (show ((P.take (k + 1)).filter fun p => !p.2.2.2.1).length = m + 1 by
          rw [List.take_add_one, HX.out, List.filter_append, List.length_append, hm.out]
          simp [h2])
        rw [h2] at x3
        clear h2
        go_wp2
        go_roundw
        case rel => exact ⟨k + 1, m + 1, by omega, by go_num, by first | rfl | trivial, by go_num, by omega, hf⟩
        case measure => simp [intOf]; omega
    · obtain rfl : k = pn := by omega
      have hf := Lib.hid (show (P.filter fun p => !p.2.2.2.1).length = m by have := hm.out; rwa [List.take_of_length_le (by rw [HP.out]; exact Nat.le_refl _)] at this)
      go_wp2
      go_ret
      exact ⟨by rw [hf.out]; rfl, rfl⟩
end Go.Proofs.Ytkjbjfjgnponfaa
