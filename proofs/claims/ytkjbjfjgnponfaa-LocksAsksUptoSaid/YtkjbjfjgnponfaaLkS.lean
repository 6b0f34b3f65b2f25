/- Package locks: what holds at every extent (plain laws); call, Drop too. -/
import Derived.Test.YtkjbjfjgnponfaaLkR
namespace Go.Proofs.Ytkjbjfjgnponfaa
open Go.RowKit
set_option linter.unusedSimpArgs false
set_option linter.unusedVariables false
/-- what holds at an extent: h hold, r wait -/
structure Ext (h r : List Pl) : Prop where
  nod : ((h ++ r).map (·.1)).Nodup
  mods : ∀ p ∈ h ++ r, p.2 = 1 ∨ p.2 = 2
  hne : r ≠ [] → h ≠ []
  sh : (∀ p ∈ h, p.2 = 1) ∨ ∃ p, h = [p] ∧ p.2 = 2
theorem Ext.nil_ : Ext [] [] := ⟨by simp, by simp, fun h => h, .inl (by simp)⟩
theorem sh_add {h : List Pl} {p : Pl} (hs : (∀ q ∈ h, q.2 = 1) ∨ ∃ q, h = [q] ∧ q.2 = 2) (hm : p.2 = 1 ∨ p.2 = 2) (hg : goesL h p.2 = true) : (∀ q ∈ h ++ [p], q.2 = 1) ∨ ∃ q, h ++ [p] = [q] ∧ q.2 = 2 := by
  cases h with
  | nil =>
    rcases hm with hm | hm
    · exact .inl fun q hq => by simp at hq; rw [hq]; exact hm
    · exact .inr ⟨p, rfl, hm⟩
  | cons a t =>
    have hg2 : (p.2 == 1 && a.2 == 1) = true := hg
    rw [Bool.and_eq_true, beq_iff_eq, beq_iff_eq] at hg2
    rcases hs with hs | ⟨q, hq, h2⟩
    · refine .inl fun q hq => ?_
      rcases List.mem_append.1 hq with hq | hq
      · exact hs q hq
      · simp at hq; rw [hq]; exact hg2.1
    · injection hq with h3 h4
      subst h3
      omega
theorem ext_come : ∀ (r h : List Pl), ((h ++ r).map (·.1)).Nodup → (∀ p ∈ h ++ r, p.2 = 1 ∨ p.2 = 2) → ((∀ p ∈ h, p.2 = 1) ∨ ∃ p, h = [p] ∧ p.2 = 2) → Ext (comeL h r).1 (comeL h r).2.1
  | [], h, h1, h2, h3 => ⟨h1, h2, fun h => absurd rfl h, h3⟩
  | p :: q, h, h1, h2, h3 => by
    rw [comeL]
    by_cases hg : goesL h p.2 = true
    · rw [if_pos hg]
      refine ext_come q (h ++ [p]) ?_ ?_ (sh_add h3 (h2 p (by simp)) hg)
      · rw [List.append_assoc]; exact h1
      · rw [List.append_assoc]; exact h2
    · rw [if_neg hg]
      exact ⟨h1, h2, fun _ => goes_ne hg, h3⟩
theorem sh_erase {h : List Pl} (i : Nat) (hs : (∀ q ∈ h, q.2 = 1) ∨ ∃ q, h = [q] ∧ q.2 = 2) : (∀ q ∈ h.eraseIdx i, q.2 = 1) ∨ ∃ q, h.eraseIdx i = [q] ∧ q.2 = 2 := by
  rcases hs with hs | ⟨q, rfl, h2⟩
  · exact .inl fun q hq => hs q ((List.eraseIdx_sublist ..).subset hq)
  · cases i with
    | zero => exact .inl (by simp)
    | succ i => exact .inr ⟨q, by simp, h2⟩
theorem ext_leave {h r : List Pl} {o : Int} {q : List Pl × List Pl × List Int × Nat} (he : Ext h r) (hl : leaveL h r o = some q) : Ext q.1 q.2.1 := by
  unfold leaveL at hl
  split at hl
  · cases hl
    have hsub : List.Sublist (h.eraseIdx (findI h o).toNat ++ r) (h ++ r) := (List.eraseIdx_sublist ..).append_right r
    exact ext_come _ _ (he.nod.sublist (hsub.map _)) (fun p hp => he.mods p (hsub.subset hp)) (sh_erase _ he.sh)
  · split at hl
    · cases hl
      have hsub : List.Sublist (h ++ r.eraseIdx (findI r o).toNat) (h ++ r) := (List.eraseIdx_sublist ..).append_left h
      exact ext_come _ _ (he.nod.sublist (hsub.map _)) (fun p hp => he.mods p (hsub.subset hp)) he.sh
    · cases hl
theorem ext_acq {h r : List Pl} {mode owner wait most : Int} (he : Ext h r) (hm : mode = 1 ∨ mode = 2) : Ext (acqL h r mode owner wait most).1 (acqL h r mode owner wait most).2.1 := by
  unfold acqL
  split
  · exact he
  · next h1 =>
    have hh : owner ∉ h.map (·.1) := fun hx => h1 (.inl (findI_mem.2 hx))
    have hr : owner ∉ r.map (·.1) := fun hx => h1 (.inr (findI_mem.2 hx))
    have hno := nodup_add (m := mode) he.nod hh hr
    have hmo : ∀ p ∈ h ++ (r ++ [(owner, mode)]), p.2 = 1 ∨ p.2 = 2 := fun p hp => by
      rw [← List.append_assoc] at hp
      rcases List.mem_append.1 hp with hp | hp
      · exact he.mods p hp
      · simp at hp; rw [hp]; exact hm
    split
    · next h2 =>
      obtain ⟨e, hg⟩ := h2
      subst e
      dsimp only
      simp only [List.nil_append] at hno hmo
      exact ⟨by rw [List.append_nil]; exact hno, by rw [List.append_nil]; exact hmo, fun h => absurd rfl h, sh_add (p := (owner, mode)) he.sh hm hg⟩
    · next h2 =>
      split
      · exact he
      · refine ⟨hno, hmo, fun _ => ?_, he.sh⟩
        by_cases e : r = []
        · exact goes_ne fun hg => h2 ⟨e, hg⟩
        · exact he.hne e
def Good (n : Nat) (L : Nat → List Pl) : Prop := ∀ x, x < n → Ext (L (x * 2)) (L (x * 2 + 1))
theorem Good.nil_ (n : Nat) : Good n (fun _ => []) := fun _ _ => Ext.nil_
theorem Good.upd {n x : Nat} {L : Nat → List Pl} {h r : List Pl} (hg : Good n L) (he : Ext h r) : Good n (upd (upd L (x * 2) h) (x * 2 + 1) r) := fun y hy => by
  by_cases e : y = x
  · subst e
    rw [upd2_h, upd2_r]
    exact he
  · rw [upd2_other L x h r (by omega) (by omega), upd2_other L x h r (by omega) (by omega)]
    exact hg y hy
theorem acq_good {n : Nat} {L : Nat → List Pl} {wait most ex mode owner : Int} (hg : Good n L) : Good n (acqT n L wait most ex mode owner).1 := by
  unfold acqT
  split
  · exact hg
  · next h1 =>
    split
    · exact hg
    · next h2 =>
      have h3 : 0 ≤ ex ∧ ex < (n : Int) := Classical.not_not.1 h2
      refine hg.upd (ext_acq (hg ex.toNat (by omega)) ?_)
      by_cases e : mode = 1
      · exact .inl e
      · exact .inr (Classical.byContradiction fun e2 => h1 ⟨e, e2⟩)
theorem rel_good {n : Nat} {L : Nat → List Pl} {wait ex owner : Int} (hg : Good n L) : Good n (relT n L wait ex owner).1 := by
  unfold relT
  split
  · exact hg
  · next h2 =>
    have h3 : 0 ≤ ex ∧ ex < (n : Int) := Classical.not_not.1 h2
    cases hl : leaveL (L (ex.toNat * 2)) (L (ex.toNat * 2 + 1)) owner with
    | none => exact hg
    | some q => exact hg.upd (ext_leave (hg ex.toNat (by omega)) hl)
theorem drop_good {n : Nat} {L : Nat → List Pl} {wait owner : Int} (hg : Good n L) : ∀ k, Good n (dropN n owner k L wait).1
  | 0 => hg
  | k + 1 => rel_good (drop_good hg k)
theorem acq_most {n : Nat} {L : Nat → List Pl} {wait most ex mode owner : Int} (h : wait ≤ most) : (acqT n L wait most ex mode owner).2.1 ≤ most := by
  unfold acqT
  split
  · exact h
  · split
    · exact h
    · dsimp only
      unfold acqL
      split
      · simpa using h
      · split
        · simpa using h
        · split
          · simpa using h
          · dsimp only; omega
theorem rel_most {n : Nat} {L : Nat → List Pl} {wait most ex owner : Int} (h : wait ≤ most) : (relT n L wait ex owner).2.1 ≤ most := by
  have := rel_wait (n := n) (L := L) (wait := wait) (ex := ex) (o := owner)
  omega
theorem drop_most {n i : Nat} {L : Nat → List Pl} {wait most owner : Int} (hI : Inv n i L wait) (h : wait ≤ most) (k : Nat) : (dropN n owner k L wait).2.1 ≤ most := by
  have := (drop_inv (o := owner) hI k).2
  omega
def callD (n : Nat) (L : Nat → List Pl) (wait most kind ex mode owner : Int) : (Nat → List Pl) × Int :=
  if kind = 3 then ((dropN n owner n L wait).1, (dropN n owner n L wait).2.1) else callT n L wait most kind ex mode owner
theorem callD_inv {n i : Nat} {L : Nat → List Pl} {wait most kind ex mode owner : Int} (h : Inv n i L wait) : Inv n (i + 1) (callD n L wait most kind ex mode owner).1 (callD n L wait most kind ex mode owner).2 := by
  unfold callD
  split
  · exact (drop_inv h n).1.mono (by omega)
  · exact call_inv h
theorem callD_good {n : Nat} {L : Nat → List Pl} {wait most kind ex mode owner : Int} (hg : Good n L) : Good n (callD n L wait most kind ex mode owner).1 := by
  unfold callD callT
  split
  · exact drop_good hg n
  · split
    · exact acq_good hg
    · split
      · exact rel_good hg
      · exact hg
theorem callD_most {n i : Nat} {L : Nat → List Pl} {wait most kind ex mode owner : Int} (hI : Inv n i L wait) (h : wait ≤ most) : (callD n L wait most kind ex mode owner).2 ≤ most := by
  unfold callD callT
  split
  · exact drop_most hI h n
  · split
    · exact acq_most h
    · split
      · exact rel_most h
      · exact h
theorem Inv.lens4 {n i : Nat} {L : Nat → List Pl} {wait : Int} (h : Inv n i L wait) (hi : i ≤ 4000000000000) : ∀ j, j < 2 * n → (L j).length ≤ 4000000000000 := fun j hj => Nat.le_trans (h.lens j hj) hi
theorem Inv.row6 {n i : Nat} {L : Nat → List Pl} {wait : Int} (h : Inv n i L wait) (hw : wait ≤ 1000000) : ∀ j, j < 2 * n → j % 2 = 1 → (L j).length ≤ 1000000 := fun j hj h1 => by have := h.row j hj h1; omega
set_option maxHeartbeats 4000000 in
theorem callD_any (base T E n i : Nat) (most kind ex mode owner : Int) (sec : Bool) (V : Nat → Value) (wait : Int) (L : Nat → List Pl) (w : World) (h : TabS base w T E n 0 most wait V L) (hn : n ≤ 4096) (hI : Inv n i L wait) (hi : i ≤ 4000000000000) (hw : wait ≤ 1000000) :
    Calls Try.prog 20 #[.pointer (some ⟨T, 0, none⟩), .agg #[.int .i64 kind, .bool sec, .int .i64 ex, .int .i64 mode, .int .i64 owner]] w fun e w' => e = .returned (.tuple #[]) ∧ ∃ V' : Nat → Value, TabS base w' T E n 0 most (callD n L wait most kind ex mode owner).2 V' (callD n L wait most kind ex mode owner).1 ∧ Chg (fun k _ => Fp T E n V k) w w' ∧ (∀ k, Fp T E n V' k → Fp T E n V k ∨ w.heap.size ≤ k) := by
  have hw0 := hI.waits.1
  by_cases k3 : kind = 3
  · subst k3
    have hB : Below w.heap.size w (w.alloc (.cells #[.int .i64 3, .bool sec, .int .i64 ex, .int .i64 mode, .int .i64 owner] 33)) := (Below.refl w.heap.size w).alloc (Nat.le_refl _) _
    have g1 := Lib.hid (dropM_any base T E n i most owner V wait L _ (h.below hB) hn hI hi hw)
    have BW := Lib.hid hB
    rw [show callD n L wait most 3 ex mode owner = ((dropN n owner n L wait).1, (dropN n owner n L wait).2.1) from if_pos rfl]
    clear h hB hI
    go_enter Try.func20, Try.ntmps20
    go_wp2_with fail
    refine g1.out.mono ?_
    rintro e w1 ⟨A, c, rfl, _, _, V', hT, hC, hF⟩
    have HT := Lib.hid hT
    have HC := Lib.hid ((Chg.of_below (fun k _ => Fp T E n V k) BW.out).trans hC fun _ _ _ h => h)
    have HF := Lib.hid hF
    clear g1 hT hC hF
    go_wp2
    go_end0
    exact ⟨rfl, V', HT.out, HC.out, fun k hk => (HF.out k hk).imp id fun h => Nat.le_trans BW.out.size h⟩
  · rw [show callD n L wait most kind ex mode owner = callT n L wait most kind ex mode owner from if_neg k3]
    exact call_any base T E n most kind ex mode owner sec V wait L w k3 h hn (hI.lens4 hi) ⟨hw0, hw⟩ (hI.row6 hw)
end Go.Proofs.Ytkjbjfjgnponfaa
