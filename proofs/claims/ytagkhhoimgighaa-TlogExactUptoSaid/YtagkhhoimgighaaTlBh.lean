/- Package replicalaw10: the Book: holds, by contract. -/
import Derived.Test.YtagkhhoimgighaaTlBk
import Derived.Test.YtagkhhoimgighaaTlRg
namespace Go.Proofs.Ytagkhhoimgighaa
open Go.RowKit
set_option linter.unusedVariables false
set_option linter.unusedSimpArgs false
theorem BkR.at_ {w : World} {B : Nat} {mk : Int} {V : Fin 4 → RV} (h : BkR w B mk V) (i : Fin 4) {k : Nat} (hk : k < (V i).P.length) :
    ∃ g o p, (V i).A = some ⟨g, o, none⟩ ∧ (V i).P[k]? = some p ∧ w.cell? ⟨g, o + k, none⟩ = some (.slice p.A p.n p.c) ∧ g < w.heap.size := by
  obtain ⟨g, o, p, hA, hg, hp, hc⟩ := (h.row i).rds.at_ hk
  exact ⟨g, o, p, hA, hp, by simpa using hc 0 _ rfl, hg⟩
theorem BkR.cap {w : World} {B : Nat} {mk : Int} {V : Fin 4 → RV} (h : BkR w B mk V) (i : Fin 4) : (V i).P.length ≤ 9223372036854775807 := by
  rcases h.row i with ⟨_, h, _⟩ | ⟨_, _, _, _, h5, h6, _⟩
  · rw [h]; simp
  · unfold maxLen at h6; omega
set_option maxRecDepth 20000 in
set_option maxHeartbeats 16000000 in
theorem holds_any {w : World} {B : Nat} {mk : Int} {V : Fin 4 → RV} (h : BkR w B mk V) (l01 : (V 0).P.map PV.l = (V 1).P.map PV.l) (l23 : (V 2).P.map PV.l = (V 3).P.map PV.l) :
    Calls Try.prog 30 #[.pointer (some ⟨B, 0, none⟩)] w fun e w' => e = .returned (.bool true) ∧ Below w.heap.size w w' := by
  obtain ⟨n0, hn0⟩ : ∃ n, (V 0).P.length = n := ⟨_, rfl⟩
  obtain ⟨n2, hn2⟩ : ∃ n, (V 2).P.length = n := ⟨_, rfl⟩
  have hn1 : (V 1).P.length = n0 := by have := congrArg List.length l01; simp at this; omega
  have hn3 : (V 3).P.length = n2 := by have := congrArg List.length l23; simp at this; omega
  have hb0 : n0 ≤ 9223372036854775807 := by rw [← hn0]; exact h.cap 0
  have hb2 : n2 ≤ 9223372036854775807 := by rw [← hn2]; exact h.cap 2
  have H := Lib.hid h
  have L01 := Lib.hid l01
  have L23 := Lib.hid l23
  have N0 := Lib.hid hn0
  have N1 := Lib.hid hn1
  have N2 := Lib.hid hn2
  have N3 := Lib.hid hn3
  have hBlt := h.blk.lt
  clear h l01 l23 hn0 hn1 hn2 hn3
  have cells : ∀ v, BkR v B mk V → v.cell? ⟨B, 0, none⟩ = some (.slice (V 0).A n0 (V 0).c) ∧ v.cell? ⟨B, 1, none⟩ = some (.slice (V 1).A n0 (V 1).c) ∧ v.cell? ⟨B, 2, none⟩ = some (.slice (V 2).A n2 (V 2).c) ∧ v.cell? ⟨B, 3, none⟩ = some (.slice (V 3).A n2 (V 3).c) := fun v hv => by
    refine ⟨?_, ?_, ?_, ?_⟩
    · rw [← N0.out]; exact hv.cell 0
    · rw [← N1.out]; exact hv.cell 1
    · rw [← N2.out]; exact hv.cell 2
    · rw [← N3.out]; exact hv.cell 3
  have CE := Lib.hid cells
  clear cells
  have hcl := CE.out _ H.out
  obtain ⟨b0, b1, b2, b3⟩ := hcl
  go_enter Try.func30, Try.ntmps30
  go_wp2_with fail
  go_loopw [3] (fun t3 wr => ∃ k : Nat, k ≤ n0 ∧ t3 = .int .i64 (k : Int) ∧ Hid (Below w.heap.size w wr)) (fun t3 _ => n0 - (intOf t3).toNat)
  case atStart => exact ⟨0, Nat.zero_le _, rfl, Lib.hid (Below.refl _ _)⟩
  case round =>
    clear b0 b1 b2 b3
    obtain ⟨k, hk, rfl, hBw⟩ := hrel
    have H1 := Lib.hid (H.out.below hBw.out)
    obtain ⟨b0, b1, b2, b3⟩ := CE.out _ H1.out
    by_cases hlk : k < n0
    · have hlk' : (k : Int) < (n0 : Int) := by omega
      obtain ⟨g0, o0, p, hA0, hp, x0, hg0⟩ := H1.out.at_ 0 (show k < (V 0).P.length by rw [N0.out]; exact hlk)
      obtain ⟨g1, o1, p', hA1, hp', x1, hg1⟩ := H1.out.at_ 1 (show k < (V 1).P.length by rw [N1.out]; exact hlk)
      have hll : p.l = p'.l := by
        have e1 : ((V 0).P.map PV.l)[k]? = ((V 1).P.map PV.l)[k]? := by rw [L01.out]
        rw [List.getElem?_map, List.getElem?_map, hp, hp'] at e1
        exact Option.some.inj e1
      have ok1 := H1.out.ok 0 p (List.mem_of_getElem? hp)
      have ok2 := H1.out.ok 1 p' (List.mem_of_getElem? hp')
      obtain ⟨pA, pn, pc, pl⟩ := p
      obtain ⟨qA, qn, qc, ql⟩ := p'
      obtain rfl : pl = ql := hll
      obtain ⟨r1, e1⟩ := ok1
      obtain ⟨r2, e2⟩ := ok2
      dsimp only at r1 e1 r2 e2 x0 x1
      subst e1
      subst e2
      have cap1 : pl.length ≤ 9223372036854775807 := by
        rcases r1 with ⟨_, h, _⟩ | ⟨_, _, _, _, h5, h6, _⟩
        · rw [h]; simp
        · unfold maxLen at h6; omega
      have SE := Lib.hid (sameEntries_any (cA := pc) (cB := qc) (w := wr.drew) r1.rds r2.rds cap1 cap1)
      have HDT := Lib.hid (show decide (pl = pl) = true from decide_eq_true rfl)
      rw [HDT.out] at SE
      rw [hA0] at b0
      rw [hA1] at b1
      have T0 : wr.drew.cell? ⟨B, 0, none⟩ = some (.slice (some ⟨g0, o0, none⟩) n0 (V 0).c) ∧ wr.drew.cell? ⟨B, 1, none⟩ = some (.slice (some ⟨g1, o1, none⟩) n0 (V 1).c) ∧ wr.drew.cell? ⟨g0, o0 + k, none⟩ = some (.slice pA pl.length pc) ∧ wr.drew.cell? ⟨g1, o1 + k, none⟩ = some (.slice qA pl.length qc) := ⟨b0, b1, x0, x1⟩
      have hBl : B < wr.heap.size := Nat.lt_of_lt_of_le hBlt hBw.out.size
      clear hp hp' r1 r2 cap1 hA0 hA1 b2 b3
      go_wp2_with fail
      go_region_held3 (fun w' => w'.cell? ⟨B, 0, none⟩ = some (.slice (some ⟨g0, o0, none⟩) n0 (V 0).c) ∧ w'.cell? ⟨B, 1, none⟩ = some (.slice (some ⟨g1, o1, none⟩) n0 (V 1).c) ∧ w'.cell? ⟨g0, o0 + k, none⟩ = some (.slice pA pl.length pc) ∧ w'.cell? ⟨g1, o1 + k, none⟩ = some (.slice qA pl.length qc)) (first | exact T0 | exact ⟨(k6.cell (p := ⟨B, 0, none⟩) hBl).trans T0.1, (k6.cell (p := ⟨B, 1, none⟩) hBl).trans T0.2.1, (k6.cell (p := ⟨g0, o0 + k, none⟩) hg0).trans T0.2.2.1, (k6.cell (p := ⟨g1, o1 + k, none⟩) hg1).trans T0.2.2.2⟩) ((first | (go_at_call 25; (with_reducible refine SE.out.mono ?_); rintro e w' ⟨rfl, k6⟩)))
      all_goals
        have BW := Lib.hid (hBw.out.drew.trans (k6.mono hBw.out.size))
        go_wp2
        go_roundw
        case rel => exact ⟨k + 1, by omega, by go_num, BW⟩
        case measure => simp [intOf]; omega
    · obtain rfl : k = n0 := by omega
      clear H1
      go_wp2_with fail
      go_loopw [4] (fun t4 wr => ∃ i : Nat, i ≤ n2 ∧ t4 = .int .i64 (i : Int) ∧ Hid (Below w.heap.size w wr)) (fun t4 _ => n2 - (intOf t4).toNat)
      case atStart => exact ⟨0, Nat.zero_le _, rfl, hBw⟩
      case round =>
        clear b0 b1 b2 b3 hBw
        obtain ⟨i, hi, rfl, hBw⟩ := hrel
        have H1 := Lib.hid (H.out.below hBw.out)
        obtain ⟨b0, b1, b2, b3⟩ := CE.out _ H1.out
        by_cases hli : i < n2
        · have hli' : (i : Int) < (n2 : Int) := by omega
          obtain ⟨g0, o0, p, hA0, hp, x0, hg0⟩ := H1.out.at_ 2 (show i < (V 2).P.length by rw [N2.out]; exact hli)
          obtain ⟨g1, o1, p', hA1, hp', x1, hg1⟩ := H1.out.at_ 3 (show i < (V 3).P.length by rw [N3.out]; exact hli)
          have hll : p.l = p'.l := by
            have e1 : ((V 2).P.map PV.l)[i]? = ((V 3).P.map PV.l)[i]? := by rw [L23.out]
            rw [List.getElem?_map, List.getElem?_map, hp, hp'] at e1
            exact Option.some.inj e1
          have ok1 := H1.out.ok 2 p (List.mem_of_getElem? hp)
          have ok2 := H1.out.ok 3 p' (List.mem_of_getElem? hp')
          obtain ⟨pA, pn, pc, pl⟩ := p
          obtain ⟨qA, qn, qc, ql⟩ := p'
          obtain rfl : pl = ql := hll
          obtain ⟨r1, e1⟩ := ok1
          obtain ⟨r2, e2⟩ := ok2
          dsimp only at r1 e1 r2 e2 x0 x1
          subst e1
          subst e2
          have cap1 : pl.length ≤ 9223372036854775807 := by
            rcases r1 with ⟨_, h, _⟩ | ⟨_, _, _, _, h5, h6, _⟩
            · rw [h]; simp
            · unfold maxLen at h6; omega
          have SE := Lib.hid (sameEntries_any (cA := pc) (cB := qc) (w := wr.drew) r1.rds r2.rds cap1 cap1)
          have HDT := Lib.hid (show decide (pl = pl) = true from decide_eq_true rfl)
          rw [HDT.out] at SE
          rw [hA0] at b2
          rw [hA1] at b3
          have T0 : wr.drew.cell? ⟨B, 2, none⟩ = some (.slice (some ⟨g0, o0, none⟩) n2 (V 2).c) ∧ wr.drew.cell? ⟨B, 3, none⟩ = some (.slice (some ⟨g1, o1, none⟩) n2 (V 3).c) ∧ wr.drew.cell? ⟨g0, o0 + i, none⟩ = some (.slice pA pl.length pc) ∧ wr.drew.cell? ⟨g1, o1 + i, none⟩ = some (.slice qA pl.length qc) := ⟨b2, b3, x0, x1⟩
          have hBl : B < wr.heap.size := Nat.lt_of_lt_of_le hBlt hBw.out.size
          clear hp hp' r1 r2 cap1 hA0 hA1 b0 b1
          go_wp2_with fail
          go_region_held3 (fun w' => w'.cell? ⟨B, 2, none⟩ = some (.slice (some ⟨g0, o0, none⟩) n2 (V 2).c) ∧ w'.cell? ⟨B, 3, none⟩ = some (.slice (some ⟨g1, o1, none⟩) n2 (V 3).c) ∧ w'.cell? ⟨g0, o0 + i, none⟩ = some (.slice pA pl.length pc) ∧ w'.cell? ⟨g1, o1 + i, none⟩ = some (.slice qA pl.length qc)) (first | exact T0 | exact ⟨(k6.cell (p := ⟨B, 2, none⟩) hBl).trans T0.1, (k6.cell (p := ⟨B, 3, none⟩) hBl).trans T0.2.1, (k6.cell (p := ⟨g0, o0 + i, none⟩) hg0).trans T0.2.2.1, (k6.cell (p := ⟨g1, o1 + i, none⟩) hg1).trans T0.2.2.2⟩) ((first | (go_at_call 25; (with_reducible refine SE.out.mono ?_); rintro e w' ⟨rfl, k6⟩)))
          all_goals
            have BW := Lib.hid (hBw.out.drew.trans (k6.mono hBw.out.size))
            go_wp2
            go_roundw
            case rel => exact ⟨i + 1, by omega, by go_num, BW⟩
            case measure => simp [intOf]; omega
        · obtain rfl : i = n2 := by omega
          go_wp2
          go_ret
          exact ⟨rfl, hBw.out⟩
end Go.Proofs.Ytagkhhoimgighaa
