/- The document's log: its questions, by contract: Open, Size, Epochs, Unacked, Settled. -/
import Derived.Test.YtagkhhoimgighaaTlRg
import Derived.Test.YtagkhhoimgighaaTlAp
namespace Go.Proofs.Ytagkhhoimgighaa
open Go.RowKit
set_option linter.unusedVariables false
set_option linter.unusedSimpArgs false
section
variable {w w' : World} {R : Nat} {r : RefT} {F : Nat → Prop}
set_option maxRecDepth 20000 in
theorem ropen_any (h : RefAt w R r F) : Calls Try.prog 42 #[.pointer (some ⟨R, 0, none⟩)] w fun e w' => e = .returned (.int .i64 r.now) ∧ w = w' := by
  obtain ⟨A, c, h, _⟩ := h
  have c1 : w.cell? ⟨R, 1, none⟩ = some (.int .i64 r.now) := h.blk.cell 1
  clear h
  go_enter Try.func42, Try.ntmps42
  go_wp2
  go_ret
  exact ⟨rfl, rfl⟩
set_option maxRecDepth 20000 in
theorem rsize_any (h : RefAt w R r F) : Calls Try.prog 43 #[.pointer (some ⟨R, 0, none⟩)] w fun e w' => e = .returned (.int .i64 r.lines.length) ∧ w = w' := by
  obtain ⟨A, c, h, _⟩ := h
  have c0 : w.cell? ⟨R, 0, none⟩ = some (.slice A r.lines.length c) := h.blk.cell 0
  clear h
  go_enter Try.func43, Try.ntmps43
  go_wp2
  go_ret
  exact ⟨rfl, rfl⟩
set_option maxRecDepth 20000 in
set_option maxHeartbeats 4000000 in
theorem rsettled_any (ep : Int) (h : RefAt w R r F) : Calls Try.prog 46 #[.pointer (some ⟨R, 0, none⟩), .int .i64 ep] w fun e w' => e = .returned (.bool (setR r.lines ep)) ∧ w = w' := by
  obtain ⟨A, c, h, _⟩ := h
  obtain ⟨pn, hpn⟩ : ∃ pn, r.lines.length = pn := ⟨_, rfl⟩
  have hcap := h.cap
  rw [hpn] at hcap
  have c0 : w.cell? ⟨R, 0, none⟩ = some (.slice A pn c) := by rw [← hpn]; exact h.blk.cell 0
  have HR := Lib.hid h.row.rds
  have HP := Lib.hid hpn
  clear h hpn
  go_enter Try.func46, Try.ntmps46
  go_wp2_with fail
  go_loopw [5] (fun t5 wr => ∃ k : Nat, k ≤ pn ∧ t5 = .int .i64 (k : Int) ∧ wr = w ∧ Hid (∀ y ∈ r.lines.take k, ¬ y.2.2.1 ≤ ep)) (fun t5 _ => pn - (intOf t5).toNat)
  case atStart => exact ⟨0, Nat.zero_le _, rfl, rfl, Lib.hid (by simp)⟩
  case round =>
    obtain ⟨k, hk, rfl, rfl, hno⟩ := hrel
    by_cases hlk : k < pn
    · have hlk' : (k : Int) < (pn : Int) := by omega
      obtain ⟨g, off, p, hA, hg, hx, hcell⟩ := HR.out.at_ (show k < r.lines.length by rw [HP.out]; exact hlk)
      subst hA
      have x0 : wr.cell? ⟨g, off + k * 4 + 2, none⟩ = some (.int .i64 p.2.2.1) := hcell 2 _ rfl
      have HX := Lib.hid hx
      clear hcell hx
      by_cases h1 : p.2.2.1 ≤ ep
      · have hf := Lib.hid (show setR r.lines ep = false from by
          unfold setR
          rw [List.all_eq_false]
          exact ⟨p, List.mem_of_getElem? HX.out, by simpa using h1⟩)
        go_wp2
        go_ret
        exact ⟨by rw [hf.out]; rfl, rfl⟩
      · have hf := Lib.hid (show ∀ y ∈ r.lines.take (k + 1), ¬ y.2.2.1 ≤ ep from fun y hy => by
          rw [List.take_add_one, HX.out, Option.toList_some] at hy
          rcases List.mem_append.1 hy with hy | hy
          · exact hno.out y hy
          · obtain rfl := List.mem_singleton.1 hy; exact h1)
        go_wp2
        go_roundw
        case rel => exact ⟨k + 1, by omega, by go_num, by first | rfl | trivial, hf⟩
        case measure => simp [intOf]; omega
    · obtain rfl : k = pn := by omega
      have hf := Lib.hid (show setR r.lines ep = true by
        have := hno.out
        rw [List.take_of_length_le (by rw [HP.out]; exact Nat.le_refl _)] at this
        unfold setR
        rw [List.all_eq_true]
        intro x hx
        simpa using this x hx)
      go_wp2
      go_ret
      exact ⟨by rw [hf.out]; rfl, rfl⟩
set_option maxRecDepth 20000 in
set_option maxHeartbeats 4000000 in
theorem repochs_any (h : RefAt w R r F) (hl : r.lines.length ≤ 1024) : Calls Try.prog 44 #[.pointer (some ⟨R, 0, none⟩)] w fun e w' => e = .returned (.int .i64 (epS r.now r.lines).1) ∧ w = w' := by
  obtain ⟨A, c, h, _⟩ := h
  obtain ⟨pn, hpn⟩ : ∃ pn, r.lines.length = pn := ⟨_, rfl⟩
  rw [hpn] at hl
  have c0 : w.cell? ⟨R, 0, none⟩ = some (.slice A pn c) := by rw [← hpn]; exact h.blk.cell 0
  have c1 : w.cell? ⟨R, 1, none⟩ = some (.int .i64 r.now) := h.blk.cell 1
  have HR := Lib.hid h.row.rds
  have HP := Lib.hid hpn
  clear h hpn
  obtain ⟨now, hnow⟩ : ∃ n, n = r.now := ⟨_, rfl⟩
  rw [← hnow] at c1 ⊢
  clear hnow
  go_enter Try.func44, Try.ntmps44
  go_wp2_with fail
  go_loopw [3, 4, 5] (fun t4 t5 t6 wr => ∃ (k : Nat) (m last : Int), k ≤ pn ∧ t6 = .int .i64 (k : Int) ∧ wr = w ∧ t4 = .int .i64 m ∧ t5 = .int .i64 last ∧ 0 ≤ m ∧ m ≤ k ∧ Hid (epS now (r.lines.take k) = (m, last))) (fun _ _ t6 _ => pn - (intOf t6).toNat)
  case atStart => exact ⟨0, 0, 0, Nat.zero_le _, rfl, rfl, rfl, rfl, Int.le_refl _, Int.le_refl _, Lib.hid rfl⟩
  case round =>
    obtain ⟨k, m, last, hk, rfl, rfl, rfl, rfl, hm0, hmk, hm⟩ := hrel
    by_cases hlk : k < pn
    · have hlk' : (k : Int) < (pn : Int) := by omega
      obtain ⟨g, off, p, hA, hg, hx, hcell⟩ := HR.out.at_ (show k < r.lines.length by rw [HP.out]; exact hlk)
      subst hA
      obtain ⟨pi, pb, pe, pa⟩ := p
      have x2 : wr.cell? ⟨g, off + k * 4 + 2, none⟩ = some (.int .i64 pe) := hcell 2 _ rfl
      have hs := epS_take now hx
      rw [hm.out] at hs
      clear hcell hx
      by_cases h1 : pe = now
      · have hf := Lib.hid (show epS now (r.lines.take (k + 1)) = (m, last) from hs.trans (if_neg fun hc => hc.1 h1))
        subst h1
        clear hs
        go_wp2
        go_roundw
        case rel => exact ⟨k + 1, m, last, by omega, by go_num, by first | rfl | trivial, rfl, rfl, hm0, by omega, hf⟩
        case measure => simp [intOf]; omega
      · have e1 : (pe != now) = true := by simpa using h1
        by_cases h2 : pe = last
        · have hf := Lib.hid (show epS now (r.lines.take (k + 1)) = (m, last) from hs.trans (if_neg fun hc => hc.2 h2))
          subst h2
          clear hs
          go_wp2
          go_roundw
          case rel => exact ⟨k + 1, m, _, by omega, by go_num, by first | rfl | trivial, rfl, rfl, hm0, by omega, hf⟩
          case measure => simp [intOf]; omega
        · have hf := Lib.hid (show epS now (r.lines.take (k + 1)) = (m + 1, pe) from hs.trans (if_pos ⟨h1, h2⟩))
          have e2 : (pe != last) = true := by simpa using h2
          clear hs
          go_wp2
          go_roundw
          case rel => exact ⟨k + 1, m + 1, pe, by omega, by go_num, by first | rfl | trivial, by go_num, rfl, by omega, by omega, hf⟩
          case measure => simp [intOf]; omega
    · obtain rfl : k = pn := by omega
      have hf := Lib.hid (show (epS now r.lines).1 = m by have := hm.out; rw [List.take_of_length_le (by rw [HP.out]; exact Nat.le_refl _)] at this; rw [this])
      go_wp2
      go_ret
      exact ⟨by rw [hf.out]; rfl, rfl⟩
set_option maxRecDepth 20000 in
set_option maxHeartbeats 8000000 in
theorem runacked_any (h : RefAt w R r F) (hl : r.lines.length ≤ 1024) :
    Calls Try.prog 45 #[.pointer (some ⟨R, 0, none⟩)] w fun e w' => ∃ Ag gc, e = .returned (.slice Ag (rUnO r).length gc) ∧ RdS encE 3 w' Ag (rUnO r) ∧ Below w.heap.size w w' := by
  obtain ⟨A, c, h, hF⟩ := h
  obtain ⟨pn, hpn⟩ : ∃ pn, r.lines.length = pn := ⟨_, rfl⟩
  rw [hpn] at hl
  have c0 : w.cell? ⟨R, 0, none⟩ = some (.slice A pn c) := by rw [← hpn]; exact h.blk.cell 0
  have H := Lib.hid h
  have HPN := Lib.hid hpn
  have C0 := Lib.hid c0
  have hRlt := h.blk.lt
  clear h hF hpn
  go_enter Try.func45, Try.ntmps45
  go_wp2_with fail
  go_loopw [3, 4] (fun t3 t4 wr => ∃ (k m : Nat) (Aa : Option Addr) (ac : Nat) (L : List (Int × Int × Int)), k ≤ pn ∧ m ≤ k ∧ t4 = .int .i64 (k : Int) ∧ t3 = .slice Aa m ac ∧ Hid (L = ((r.lines.take k).filter fun x => !x.2.2.2).map entOf) ∧ Hid (L.length = m) ∧ Hid (GSl encE 3 36 wr Aa ac L) ∧ Hid (freshL w.heap.size Aa) ∧ Hid (Below w.heap.size w wr)) (fun _ t4 _ => pn - (intOf t4).toNat)
  case atStart => exact ⟨0, 0, none, 0, [], Nat.zero_le _, Nat.le_refl _, rfl, rfl, Lib.hid rfl, Lib.hid rfl, Lib.hid GSl.nil_, Lib.hid (.inl rfl), Lib.hid (Below.refl _ _)⟩
  case round =>
    clear c0
    obtain ⟨k, m, Aa, ac, L, hk, hmk, rfl, rfl, hLe, HLk, hG, hfr, hB⟩ := hrel
    have c0 : wr.cell? ⟨R, 0, none⟩ = some (.slice A pn c) := (hB.out.cell (p := ⟨R, 0, none⟩) hRlt).trans C0.out
    by_cases hlk : k < pn
    · have hlk' : (k : Int) < (pn : Int) := by omega
      obtain ⟨g, off, x, hA, hg, hx, hcell⟩ := (H.out.row.rds.below hB.out).at_ (show k < r.lines.length by rw [HPN.out]; exact hlk)
      have hst := rUnO_take hx
      obtain ⟨xi, xb, xe, xa⟩ := x
      subst hA
      have x0 : wr.cell? ⟨g, off + k * 4, none⟩ = some (.int .i64 xi) := hcell 0 _ rfl
      have x1 : wr.cell? ⟨g, off + k * 4 + 1, none⟩ = some (.int .i64 xb) := hcell 1 _ rfl
      have x2 : wr.cell? ⟨g, off + k * 4 + 2, none⟩ = some (.int .i64 xe) := hcell 2 _ rfl
      have x3 : wr.cell? ⟨g, off + k * 4 + 3, none⟩ = some (.bool xa) := hcell 3 _ rfl
      rw [← hLe.out] at hst
      have HST := Lib.hid hst
      clear hcell hx hst
      cases xa with
      | true =>
        have hL2 := Lib.hid (show L = ((r.lines.take (k + 1)).filter fun x => !x.2.2.2).map entOf from by rw [HST.out]; simp)
        go_wp2_with fail
        go_roundw
        case rel => exact ⟨k + 1, m, Aa, ac, L, by omega, by omega, by go_num, rfl, hL2, HLk, hG, hfr, hB⟩
        case measure => simp [intOf]; omega
      | false =>
        have hL2 := Lib.hid (show L ++ [(xi, xb, xe)] = ((r.lines.take (k + 1)).filter fun x => !x.2.2.2).map entOf from by rw [HST.out]; rfl)
        have GA := Lib.hid (hG.out.chg (Chg.alloc (fun _ _ => False) wr (.cells #[.int .i64 xi, .int .i64 xb, .int .i64 xe] 36)) encE_len fun _ _ _ h => h)
        have Rn := Lib.hid (show RdS encE 3 (wr.alloc (.cells #[.int .i64 xi, .int .i64 xb, .int .i64 xe] 36)) (some ⟨wr.heap.size, 0, none⟩) [(xi, xb, xe)] from RdS.new1 encE 3 wr 36 (xi, xb, xe))
        go_wp2_with (
          at_builtin
          refine wpList_appendG entTy (by decide) encE_len encE_one rfl (.tmp 23) (.tmp 32) rfl Aa ac L (by rw [HLk.out]; rfl) GA.out (some ⟨wr.heap.size, 0, none⟩) 1 [(xi, xb, xe)] rfl Rn.out (by rw [HLk.out]; simp only [maxLen, List.length_singleton]; omega) (by rw [HLk.out]; simp only [List.length_singleton]; omega) ?_
          intro A6 c6 w8 h8 k8 q8
          have hlen8 : (L ++ [(xi, xb, xe)]).length = m + 1 := by rw [List.length_append, HLk.out]; rfl
          rw [hlen8]
          have kk : Chg (slFp 3 Aa L.length ac) wr w8 := (Chg.alloc (slFp 3 Aa L.length ac) wr (.cells #[.int .i64 xi, .int .i64 xb, .int .i64 xe] 36)).trans k8 fun _ _ _ h => h
          have B8 := Lib.hid (show Below w.heap.size w w8 from hB.out.trans (kk.below hB.out.size fun j i hj hs => by
            rcases hfr.out with e | ⟨g2, e, hg2⟩
            · obtain ⟨o, e2, _⟩ := hs
              rw [e] at e2; cases e2
            · obtain ⟨o, e2, _⟩ := hs
              rw [e] at e2; cases e2
              omega))
          have F8 := Lib.hid (show freshL w.heap.size A6 from by
            rcases q8 with ⟨e1, _⟩ | ⟨g2, e1, hg2⟩
            · rw [e1]; exact hfr.out
            · exact .inr ⟨g2, e1, by have := hB.out.size; simp at hg2; omega⟩)
          have G8 := Lib.hid h8
          have L8 := Lib.hid hlen8
          clear h8 k8 q8 kk hlen8
          )
        go_roundw
        case rel => exact ⟨k + 1, m + 1, A6, c6, L ++ [(xi, xb, xe)], by omega, by omega, by go_num, rfl, hL2, L8, G8, F8, B8⟩
        case measure => simp [intOf]; omega
    · obtain rfl : k = pn := by omega
      have hf := Lib.hid (show L = rUnO r from by
        rw [hLe.out, List.take_of_length_le (by rw [HPN.out]; exact Nat.le_refl _)]; rfl)
      go_wp2_with fail
      go_ret
      exact ⟨Aa, ac, by rw [← hf.out, HLk.out]; rfl, by rw [← hf.out]; exact hG.out.rds, hB.out⟩
end
end Go.Proofs.Ytagkhhoimgighaa
