/- The document's log: Fail, by contract. -/
import Derived.Test.YtagkhhoimgighaaTlRd
namespace Go.Proofs.Ytagkhhoimgighaa
open Go.RowKit
set_option linter.unusedVariables false
set_option linter.unusedSimpArgs false
/-- a fresh list -/
def freshL (B : Nat) (A : Option Addr) : Prop := A = none ∨ ∃ g, A = some ⟨g, 0, none⟩ ∧ B ≤ g
section
variable {w w' : World} {R : Nat} {r : RefT} {F : Nat → Prop}
set_option maxRecDepth 20000 in
set_option maxHeartbeats 8000000 in
theorem rfail_any (h : RefAt w R r F) (hl : r.lines.length ≤ 1024) :
    Calls Try.prog 39 #[.pointer (some ⟨R, 0, none⟩)] w fun e w' => ∃ Ag gc, e = .returned (.slice Ag (rFailO r).length gc) ∧ RdS encE 3 w' Ag (rFailO r) ∧ (∃ F' : Nat → Prop, RefAt w' R (rFailT r) F' ∧ ∀ k, F' k → F k) ∧ Chg (fun k _ => F k) w w' := by
  obtain ⟨A, c, h, hF⟩ := h
  obtain ⟨pn, hpn⟩ : ∃ pn, r.lines.length = pn := ⟨_, rfl⟩
  rw [hpn] at hl
  have c0 : w.cell? ⟨R, 0, none⟩ = some (.slice A pn c) := by rw [← hpn]; exact h.blk.cell 0
  have H := Lib.hid h
  have HF := Lib.hid hF
  have HPN := Lib.hid hpn
  have C0 := Lib.hid c0
  have hRlt := h.blk.lt
  have HO := Lib.hid (show (rFailO r).length = pn by unfold rFailO; rw [List.length_map, hpn])
  clear h hF hpn
  go_enter Try.func39, Try.ntmps39
  go_wp2_with fail
  go_loopw [3, 4] (fun t3 t4 wr => ∃ (k : Nat) (Aa : Option Addr) (ac : Nat), k ≤ pn ∧ t4 = .int .i64 (k : Int) ∧ t3 = .slice Aa k ac ∧ Hid (GSl encE 3 36 wr Aa ac ((r.lines.take k).map entOf)) ∧ Hid (freshL w.heap.size Aa) ∧ Hid (Below w.heap.size w wr)) (fun _ t4 _ => pn - (intOf t4).toNat)
  case atStart => exact ⟨0, none, 0, Nat.zero_le _, rfl, rfl, Lib.hid GSl.nil_, Lib.hid (.inl rfl), Lib.hid (Below.refl _ _)⟩
  case round =>
    clear c0
    obtain ⟨k, Aa, ac, hk, rfl, rfl, hG, hfr, hB⟩ := hrel
    have c0 : wr.cell? ⟨R, 0, none⟩ = some (.slice A pn c) := (hB.out.cell (p := ⟨R, 0, none⟩) hRlt).trans C0.out
    have HLk := Lib.hid (show ((r.lines.take k).map entOf).length = k by rw [List.length_map, List.length_take, HPN.out]; omega)
    by_cases hlk : k < pn
    · have hlk' : (k : Int) < (pn : Int) := by omega
      obtain ⟨g, off, x, hA, hg, hx, hcell⟩ := (H.out.row.rds.below hB.out).at_ (show k < r.lines.length by rw [HPN.out]; exact hlk)
      obtain ⟨xi, xb, xe, xa⟩ := x
      subst hA
      have x0 : wr.cell? ⟨g, off + k * 4, none⟩ = some (.int .i64 xi) := hcell 0 _ rfl
      have x1 : wr.cell? ⟨g, off + k * 4 + 1, none⟩ = some (.int .i64 xb) := hcell 1 _ rfl
      have x2 : wr.cell? ⟨g, off + k * 4 + 2, none⟩ = some (.int .i64 xe) := hcell 2 _ rfl
      have HST := Lib.hid (show (r.lines.take (k + 1)).map entOf = (r.lines.take k).map entOf ++ [(xi, xb, xe)] by rw [List.take_add_one, hx, List.map_append]; rfl)
      have GA := Lib.hid (hG.out.chg (Chg.alloc (fun _ _ => False) wr (.cells #[.int .i64 xi, .int .i64 xb, .int .i64 xe] 36)) encE_len fun _ _ _ h => h)
      have Rn := Lib.hid (show RdS encE 3 (wr.alloc (.cells #[.int .i64 xi, .int .i64 xb, .int .i64 xe] 36)) (some ⟨wr.heap.size, 0, none⟩) [(xi, xb, xe)] from RdS.new1 encE 3 wr 36 (xi, xb, xe))
      clear hcell hx
      go_wp2_with (
        at_builtin
        refine wpList_appendG entTy (by decide) encE_len encE_one rfl (.tmp 14) (.tmp 23) rfl Aa ac ((r.lines.take k).map entOf) (by rw [HLk.out]; rfl) GA.out (some ⟨wr.heap.size, 0, none⟩) 1 [(xi, xb, xe)] rfl Rn.out (by rw [HLk.out]; simp only [maxLen, List.length_singleton]; omega) (by rw [HLk.out]; simp only [List.length_singleton]; omega) ?_
        intro A6 c6 w8 h8 k8 q8
        have hlen8 : ((r.lines.take k).map entOf ++ [(xi, xb, xe)]).length = k + 1 := by rw [List.length_append, HLk.out]; rfl
        rw [hlen8]
        rw [← HST.out] at h8
        have kk : Chg (slFp 3 Aa ((r.lines.take k).map entOf).length ac) wr w8 := (Chg.alloc (slFp 3 Aa ((r.lines.take k).map entOf).length ac) wr (.cells #[.int .i64 xi, .int .i64 xb, .int .i64 xe] 36)).trans k8 fun _ _ _ h => h
        have B8 := Lib.hid (show Below w.heap.size w w8 from hB.out.trans (kk.below hB.out.size fun j i hj hs => by
          rcases hfr.out with e | ⟨g2, e, hg2⟩
          · obtain ⟨o, e2, _⟩ := hs
            rw [e] at e2; cases e2
          · obtain ⟨o, e2, _⟩ := hs
            rw [e] at e2; cases e2
            omega))
        have F8 := Lib.hid (show freshL w.heap.size A6 from by
          rcases q8 with ⟨e1, _⟩ | ⟨g2, e1, hg2⟩
          · rw [e1]; exact hfr.out
          · exact .inr ⟨g2, e1, by have := hB.out.size; simp at hg2; omega⟩)
        have G8 := Lib.hid h8
        clear h8 k8 q8 kk hlen8
        )
      go_roundw
      case rel => exact ⟨k + 1, A6, c6, by omega, by go_num, rfl, G8, F8, B8⟩
      case measure => simp [intOf]; omega
    · obtain rfl : k = pn := by omega
      have HG := Lib.hid (show GSl encE 3 36 wr Aa ac (rFailO r) from by
        have := hG.out
        rwa [List.take_of_length_le (by rw [HPN.out]; exact Nat.le_refl _)] at this)
      have Hr := H.out.below hB.out
      have fz0 := Hr.blk.frozen 0
      have fz1 := Hr.blk.frozen 1
      have d1 : wr.cell? ⟨R, 1, none⟩ = some (.int .i64 r.now) := Hr.blk.cell 1
      have hS : Blk ((wr.setCell ⟨R, 0, none⟩ (.slice none 0 0)).setCell ⟨R, 1, none⟩ (.int .i64 1)) R 79 #[.slice none 0 0, .int .i64 1, .int .i64 r.limit, .int .i64 r.each] := (Hr.blk.set_ 0 (.slice none 0 0)).set_ 1 (.int .i64 1)
      have hC : Chg (fun k _ => k = R) wr ((wr.setCell ⟨R, 0, none⟩ (.slice none 0 0)).setCell ⟨R, 1, none⟩ (.int .i64 1)) := (Chg.setCell (fun k _ => k = R) wr (g := R) (i := 0) rfl _).trans (Chg.setCell (fun k _ => k = R) _ (g := R) (i := 1) rfl _) fun _ _ _ h => h
      have HS := Lib.hid hS
      have HC := Lib.hid hC
      have HR := Lib.hid Hr
      clear hS hC Hr hG
      go_wp2
      go_ret
      refine ⟨Aa, ac, by rw [HO.out]; rfl, ?_, ⟨refFp R none, ⟨none, 0, ⟨HS.out, GSl.nil_, .inl rfl⟩, fun _ => Iff.rfl⟩, fun k hk => ?_⟩, ?_⟩
      · refine (HG.out.chg HC.out encE_len fun g i hs e => ?_).rds
        rcases hfr.out with e2 | ⟨g2, e2, hg2⟩
        · obtain ⟨o, e3, _⟩ := hs
          rw [e2] at e3; cases e3
        · obtain ⟨o, e3, _⟩ := hs
          rw [e2] at e3; cases e3
          omega
      · rcases hk with e | ⟨a, e, _⟩
        · exact (HF.out k).2 (.inl e)
        · cases e
      · exact (Chg.of_below (fun k _ => F k) hB.out).trans HC.out fun k i _ e => (HF.out k).2 (.inl e)
end
end Go.Proofs.Ytagkhhoimgighaa
