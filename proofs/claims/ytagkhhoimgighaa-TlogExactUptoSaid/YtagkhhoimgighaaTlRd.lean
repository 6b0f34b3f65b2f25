/- The document's log: Add that takes the write, by contract. -/
import Derived.Test.YtagkhhoimgighaaTlRc
namespace Go.Proofs.Ytagkhhoimgighaa
open Go.RowKit
set_option linter.unusedVariables false
set_option linter.unusedSimpArgs false
section
variable {w w' : World} {R : Nat} {r : RefT} {F : Nat → Prop}
set_option maxRecDepth 20000 in
set_option maxHeartbeats 8000000 in
theorem radd_yes (id blk : Int) (h : RefAt w R r F) (hl : r.lines.length ≤ 1023) (hyes : rAddR r id blk = 0) :
    Calls Try.prog 34 #[.pointer (some ⟨R, 0, none⟩), .int .i64 id, .int .i64 blk] w fun e w' => e = .returned (.tuple #[.int .i64 r.now, .bool (decide ((ofR (rAddT r id blk).lines r.now : Int) = r.each)), .int .i64 0]) ∧ ∃ F', RefAt w' R (rAddT r id blk) F' ∧ Chg (fun k _ => F k) w w' ∧ ∀ k, F' k → F k ∨ w.heap.size ≤ k := by
  obtain ⟨A, c, h, hF⟩ := h
  obtain ⟨pn, hpn⟩ : ∃ pn, r.lines.length = pn := ⟨_, rfl⟩
  rw [hpn] at hl
  obtain ⟨h1, h3, h4, hf, h6, h7⟩ : ¬ id < 1 ∧ ¬ blk < 0 ∧ ¬ 4096 ≤ blk ∧ posR r.lines id = none ∧ ¬ r.limit ≤ r.lines.length ∧ ¬ r.each ≤ ofR r.lines r.now := by
    unfold rAddR at hyes
    by_cases a1 : id < 1
    · rw [if_pos a1] at hyes; cases hyes
    rw [if_neg a1] at hyes
    by_cases a2 : blk < 0 ∨ 4096 ≤ blk
    · rw [if_pos a2] at hyes; cases hyes
    rw [if_neg a2] at hyes
    cases a3 : posR r.lines id with
    | some g => rw [a3, if_pos (show (some g).isSome = true from rfl)] at hyes; cases hyes
    | none =>
      rw [a3, if_neg (by simp)] at hyes
      by_cases a4 : r.limit ≤ r.lines.length ∨ r.each ≤ ofR r.lines r.now
      · rw [if_pos a4] at hyes; cases hyes
      · exact ⟨a1, by omega, by omega, rfl, by omega, by omega⟩
  rw [hpn] at h6
  have c0 : w.cell? ⟨R, 0, none⟩ = some (.slice A pn c) := by rw [← hpn]; exact h.blk.cell 0
  have c1 : w.cell? ⟨R, 1, none⟩ = some (.int .i64 r.now) := h.blk.cell 1
  have c2 : w.cell? ⟨R, 2, none⟩ = some (.int .i64 r.limit) := h.blk.cell 2
  have c3 : w.cell? ⟨R, 3, none⟩ = some (.int .i64 r.each) := h.blk.cell 3
  have GF := Lib.hid (rfind_any R pn c A r.lines id w hpn (by omega) c0 h.row.rds)
  have GO := Lib.hid (rof_any R pn c A r.lines r.now w.drew hpn (by omega) c0 h.row.rds)
  obtain ⟨q, hq⟩ : ∃ q, ofR r.lines r.now = q := ⟨_, rfl⟩
  rw [hq] at GO h7
  rw [show posI r.lines id = -1 from by unfold posI; rw [hf]] at GF
  have T0 : w.drew.cell? ⟨R, 0, none⟩ = some (.slice A pn c) ∧ w.drew.cell? ⟨R, 1, none⟩ = some (.int .i64 r.now) ∧ w.drew.cell? ⟨R, 2, none⟩ = some (.int .i64 r.limit) ∧ w.drew.cell? ⟨R, 3, none⟩ = some (.int .i64 r.each) := ⟨c0, c1, c2, c3⟩
  have h8 : decide (r.limit ≤ (pn : Int)) = false := decide_eq_false h6
  have h9 : decide (r.each ≤ (q : Int)) = false := decide_eq_false h7
  obtain ⟨v, hv⟩ : ∃ v : World, v = w.drew := ⟨_, rfl⟩
  have HV := Lib.hid hv.symm
  have H := Lib.hid (show RefIn v R r A c by rw [hv]; exact h.drewN 1)
  have HF := Lib.hid hF
  have HPN := Lib.hid hpn
  have hRv : R < v.heap.size := H.out.blk.lt
  have b0 : v.cell? ⟨R, 0, none⟩ = some (.slice A pn c) := by rw [hv]; exact c0
  have b1 : v.cell? ⟨R, 1, none⟩ = some (.int .i64 r.now) := by rw [hv]; exact c1
  obtain ⟨X, hX⟩ : ∃ X : Obj, X = .cells #[.int .i64 id, .int .i64 blk, .int .i64 r.now, .bool false] 81 := ⟨_, rfl⟩
  have kA : Below v.heap.size v (v.drew.alloc X) := (Below.refl v.heap.size v).drew.alloc (Nat.le_refl _) X
  have HA := Lib.hid (H.out.below kA)
  have y0 : (v.drew.alloc X).cell? ⟨R, 0, none⟩ = some (.slice A pn c) := by rw [← hpn]; exact HA.out.blk.cell 0
  have y1 : (v.drew.alloc X).cell? ⟨R, 1, none⟩ = some (.int .i64 r.now) := HA.out.blk.cell 1
  have N4 := RdS.new1 encL 4 v.drew 81 (id, blk, r.now, false)
  have N4 := Lib.hid (show RdS encL 4 (v.drew.alloc X) (some ⟨v.heap.size, 0, none⟩) [(id, blk, r.now, false)] by rw [hX]; exact N4)
  have hlen1 : r.lines.length + [(id, blk, r.now, false)].length ≤ maxLen := by rw [hpn]; unfold maxLen; simp only [List.length_singleton]; omega
  have hlen2 : (r.lines.length + [(id, blk, r.now, false)].length) * 32 ≤ 140737488355328 := by rw [hpn]; simp only [List.length_singleton]; omega
  have HL1 := Lib.hid hlen1
  have HL2 := Lib.hid hlen2
  have kv : Below w.heap.size w v := by rw [hv]; exact (Below.refl _ w).drew
  have KV := Lib.hid kv
  have KA := Lib.hid kA
  have y0' := y0
  have y1' := y1
  rw [hX] at y0' y1'
  have HX := Lib.hid hX
  have hEq : ofR (rAddT r id blk).lines r.now = q + 1 := by
    rw [← hq]
    unfold ofR rAddT
    simp
  have HEQ := Lib.hid hEq
  have HL8 := Lib.hid (show (r.lines ++ [(id, blk, r.now, false)]).length = pn + 1 by rw [List.length_append, hpn]; rfl)
  clear h hF hyes hf hv hX kA hpn hlen1 hlen2 kv hq c2 c3 y0 y1 hEq
  go_enter Try.func34, Try.ntmps34
  go_wp2_with fail
  refine GF.out.mono ?_
  rintro e w' ⟨rfl, rfl⟩
  go_wp2
  go_region_held3 (fun w' => w'.cell? ⟨R, 0, none⟩ = some (.slice A pn c) ∧ w'.cell? ⟨R, 1, none⟩ = some (.int .i64 r.now) ∧ w'.cell? ⟨R, 2, none⟩ = some (.int .i64 r.limit) ∧ w'.cell? ⟨R, 3, none⟩ = some (.int .i64 r.each)) (exact T0) (first | (go_at_call 48; (with_reducible refine GO.out.mono ?_); rintro e w' ⟨rfl, rfl⟩))
  rw [HV.out]
  clear T0 GF GO c0 c1 HV
  go_wp2
  have HA2 := HA.out
  have N42 := N4.out
  have KA2 := KA.out
  rw [HX.out] at HA2 N42 KA2
  have hA5 : ∀ i, ¬ slFp 4 A r.lines.length c R i := fun i hs => by
    obtain ⟨cs, hb⟩ := line_blk HA2.row (slFp_blk hs)
    exact blk_type_ne hb HA2.blk (by decide) rfl
  go_region_law (first | (refine step_appendG lnTy (by decide) encL_len encL_one rfl (.tmp 52) (.tmp 61) rfl A c r.lines (by rw [HPN.out]; rfl) (by exact HA2.row) (some ⟨v.heap.size, 0, none⟩) 1 [(id, blk, r.now, false)] (by rfl) (by exact N42) HL1.out HL2.out ?_; intro A' c' w4 h4 k4 q4; rw [show (r.lines ++ [(id, blk, r.now, false)]).length = pn + 1 from HL8.out]; have G4 := k4.blk HA2.blk hA5; have q5 := G4.cell 0; have z4 := G4.frozen 0; rw [HPN.out] at q5))
  all_goals
    have hset : Chg (fun k _ => k = R) w4 (w4.setCell ⟨R, 0, none⟩ (.slice A' (pn + 1) c')) := Chg.setCell (fun k _ => k = R) w4 (g := R) (i := 0) rfl _
    have R5 : RefIn (w4.setCell ⟨R, 0, none⟩ (.slice A' (pn + 1) c')) R (rAddT r id blk) A' c' := by
      refine ⟨?_, h4.chg hset encL_len fun g i hs e => ?_, ?_⟩
      · have := G4.set_ 0 (.slice A' (pn + 1) c')
        rw [HPN.out] at this
        show Blk _ R _ #[.slice A' (r.lines ++ [(id, blk, r.now, false)]).length c', _, _, _]
        rw [HL8.out]
        exact this
      · obtain ⟨cs, hb⟩ := line_blk h4 (slFp_blk hs)
        exact blk_type_ne hb G4 (by decide) e
      · rcases q4 with ⟨e1, _⟩ | ⟨g, e1, _⟩
        · rw [e1]; exact H.out.loc
        · exact .inr ⟨g, e1⟩
    have K5 : Chg (fun k _ => F k) w (w4.setCell ⟨R, 0, none⟩ (.slice A' (pn + 1) c')) := by
      have t1 : Chg (fun k _ => F k) w v := Chg.of_below _ KV.out
      have t2 := t1.trans (Chg.of_below (fun k _ => F k) KA2) fun _ _ _ h => h
      have t3 := t2.trans k4 fun k i _ hs => (HF.out k).2 (.inr (slFp_blk hs))
      exact t3.trans hset fun k i _ e => (HF.out k).2 (.inl e)
    have hfp : ∀ k, refFp R A' k → F k ∨ w.heap.size ≤ k := fun k hk => by
      rcases hk with e | e
      · exact .inl ((HF.out k).2 (.inl e))
      · rcases q4 with ⟨e1, _⟩ | ⟨g, e1, hg⟩
        · rw [e1] at e; exact .inl ((HF.out k).2 (.inr e))
        · obtain ⟨a, e2, rfl⟩ := e
          rw [e1] at e2
          cases e2
          exact .inr (Nat.le_trans KV.out.size (Nat.le_trans KA2.size hg))
    obtain ⟨u, hu⟩ : ∃ u, u = w4.setCell ⟨R, 0, none⟩ (.slice A' (pn + 1) c') := ⟨_, rfl⟩
    rw [← hu]
    rw [← hu] at R5 K5
    have u0 : u.drew.cell? ⟨R, 0, none⟩ = some (.slice A' (pn + 1) c') := by
      have := R5.blk.cell 0
      rw [show (rAddT r id blk).lines.length = pn + 1 from HL8.out] at this
      exact this
    have u1 : u.drew.cell? ⟨R, 1, none⟩ = some (.int .i64 r.now) := R5.blk.cell 1
    have u3 : u.drew.cell? ⟨R, 3, none⟩ = some (.int .i64 r.each) := R5.blk.cell 3
    have GO2 := rof_any R (pn + 1) c' A' (rAddT r id blk).lines r.now u.drew HL8.out (by omega) u0 (R5.drewN 1).row.rds
    rw [HEQ.out] at GO2
    have HGO := Lib.hid GO2
    have HR5 := Lib.hid R5
    have HK5 := Lib.hid K5
    have HFP := Lib.hid hfp
    have T1 : u.drew.cell? ⟨R, 1, none⟩ = some (.int .i64 r.now) ∧ u.drew.cell? ⟨R, 3, none⟩ = some (.int .i64 r.each) := ⟨u1, u3⟩
    clear hu R5 K5 hfp GO2 hset q4 h4 k4 G4 q5 z4 HA2 N42 KA2 hA5
    go_wp2
    go_region_held3 (fun w' => w'.cell? ⟨R, 1, none⟩ = some (.int .i64 r.now) ∧ w'.cell? ⟨R, 3, none⟩ = some (.int .i64 r.each)) (exact T1) (first | (go_at_call 48; (with_reducible refine HGO.out.mono ?_); rintro e w' ⟨rfl, rfl⟩))
    go_wp2
    go_ret3
    rw [HEQ.out]
    exact ⟨rfl, refFp R A', ⟨A', c', HR5.out.drewN _, fun _ => Iff.rfl⟩, HK5.out.drewN _, HFP.out⟩
end
end Go.Proofs.Ytagkhhoimgighaa
