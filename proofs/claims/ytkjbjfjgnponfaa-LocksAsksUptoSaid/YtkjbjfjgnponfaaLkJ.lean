/- Package locks: what every call keeps (plain laws), two tables, call. -/
import Derived.Test.YtkjbjfjgnponfaaLkI
namespace Go.Proofs.Ytkjbjfjgnponfaa
open Go.RowKit
set_option linter.unusedSimpArgs false
set_option linter.unusedVariables false
def rowSum : Nat → (Nat → List Pl) → Nat
  | 0, _ => 0
  | n + 1, L => rowSum n L + (L (n * 2 + 1)).length
def tot : Nat → (Nat → List Pl) → Nat
  | 0, _ => 0
  | n + 1, L => tot n L + ((L (n * 2)).length + (L (n * 2 + 1)).length)
theorem rowSum_congr : ∀ {n : Nat} {L L' : Nat → List Pl}, (∀ j, j < 2 * n → L j = L' j) → rowSum n L = rowSum n L'
  | 0, _, _, _ => rfl
  | n + 1, L, L', h => by rw [rowSum, rowSum, rowSum_congr (n := n) (fun j hj => h j (by omega)), h (n * 2 + 1) (by omega)]
theorem tot_congr : ∀ {n : Nat} {L L' : Nat → List Pl}, (∀ j, j < 2 * n → L j = L' j) → tot n L = tot n L'
  | 0, _, _, _ => rfl
  | n + 1, L, L', h => by rw [tot, tot, tot_congr (n := n) (fun j hj => h j (by omega)), h (n * 2) (by omega), h (n * 2 + 1) (by omega)]
theorem upd2_other (L : Nat → List Pl) (x : Nat) (h r : List Pl) {j : Nat} (h1 : j ≠ x * 2) (h2 : j ≠ x * 2 + 1) : upd (upd L (x * 2) h) (x * 2 + 1) r j = L j := by rw [upd_ne _ _ h2, upd_ne _ _ h1]
theorem upd2_h (L : Nat → List Pl) (x : Nat) (h r : List Pl) : upd (upd L (x * 2) h) (x * 2 + 1) r (x * 2) = h := by rw [upd_ne _ _ (by omega), upd_same]
theorem upd2_r (L : Nat → List Pl) (x : Nat) (h r : List Pl) : upd (upd L (x * 2) h) (x * 2 + 1) r (x * 2 + 1) = r := upd_same _ _ _
theorem rowSum_upd : ∀ {n x : Nat} (L : Nat → List Pl) (h r : List Pl), x < n → rowSum n (upd (upd L (x * 2) h) (x * 2 + 1) r) + (L (x * 2 + 1)).length = rowSum n L + r.length
  | 0, _, _, _, _, hx => by omega
  | n + 1, x, L, h, r, hx => by
    rw [rowSum, rowSum]
    rcases Nat.lt_or_ge x n with h1 | h1
    · have ih := rowSum_upd L h r h1
      rw [upd2_other L x h r (by omega) (by omega)]
      omega
    · obtain rfl : x = n := by omega
      rw [upd2_r, rowSum_congr (L' := L) (fun j hj => upd2_other L x h r (by omega) (by omega))]
      omega
theorem tot_upd : ∀ {n x : Nat} (L : Nat → List Pl) (h r : List Pl), x < n → tot n (upd (upd L (x * 2) h) (x * 2 + 1) r) + ((L (x * 2)).length + (L (x * 2 + 1)).length) = tot n L + (h.length + r.length)
  | 0, _, _, _, _, hx => by omega
  | n + 1, x, L, h, r, hx => by
    rw [tot, tot]
    rcases Nat.lt_or_ge x n with h1 | h1
    · have ih := tot_upd L h r h1
      rw [upd2_other L x h r (by omega) (by omega), upd2_other L x h r (by omega) (by omega)]
      omega
    · obtain rfl : x = n := by omega
      rw [upd2_h, upd2_r, tot_congr (L' := L) (fun j hj => upd2_other L x h r (by omega) (by omega))]
      omega
theorem len_tot : ∀ {n : Nat} (L : Nat → List Pl) (j : Nat), j < 2 * n → (L j).length ≤ tot n L
  | 0, _, _, h => by omega
  | n + 1, L, j, h => by
    rw [tot]
    rcases Nat.lt_or_ge j (2 * n) with h1 | h1
    · have := len_tot L j h1; omega
    · rcases (show j = n * 2 ∨ j = n * 2 + 1 by omega) with e | e <;> subst e <;> omega
def Hne (n : Nat) (L : Nat → List Pl) : Prop := ∀ x, x < n → L (x * 2 + 1) ≠ [] → L (x * 2) ≠ []
theorem row_lt : ∀ {n : Nat} {L : Nat → List Pl}, Hne n L → rowSum n L = 0 ∨ rowSum n L + 1 ≤ tot n L
  | 0, _, _ => .inl rfl
  | n + 1, L, h => by
    rw [rowSum, tot]
    have ih := row_lt (n := n) (L := L) fun x hx => h x (by omega)
    have hle : rowSum n L ≤ tot n L := by rcases ih with h1 | h1 <;> omega
    by_cases hr : L (n * 2 + 1) = []
    · rw [hr]; simp; omega
    · have := List.length_pos_iff.2 (h n (by omega) hr)
      right
      omega
/-- what every call keeps: as many places as calls, the number of those who wait, nobody waits where nobody holds -/
structure Inv (n i : Nat) (L : Nat → List Pl) (wait : Int) : Prop where
  tot : tot n L ≤ i
  sum : wait = (rowSum n L : Int)
  hne : Hne n L
theorem Inv.lens {n i : Nat} {L : Nat → List Pl} {wait : Int} (h : Inv n i L wait) : ∀ j, j < 2 * n → (L j).length ≤ i := fun j hj => Nat.le_trans (len_tot L j hj) h.tot
theorem Inv.waits {n i : Nat} {L : Nat → List Pl} {wait : Int} (h : Inv n i L wait) : 0 ≤ wait ∧ wait ≤ (i : Int) ∧ (wait = 0 ∨ wait + 1 ≤ (i : Int)) := by
  have h1 := h.sum
  have h2 := h.tot
  rcases row_lt h.hne with h3 | h3 <;> omega
theorem Inv.upd {n i j x : Nat} {L : Nat → List Pl} {wait wait' : Int} {h' r' : List Pl} (h : Inv n i L wait) (hx : x < n) (h1 : h'.length + r'.length + i ≤ (L (x * 2)).length + (L (x * 2 + 1)).length + j) (h2 : wait' + ((L (x * 2 + 1)).length : Int) = wait + (r'.length : Int)) (h3 : r' ≠ [] → h' ≠ []) : Inv n j (upd (upd L (x * 2) h') (x * 2 + 1) r') wait' := by
  have a1 := tot_upd L h' r' hx
  have a2 := rowSum_upd L h' r' hx
  have a3 := h.tot
  have a4 := h.sum
  refine ⟨by omega, by omega, fun y hy hr => ?_⟩
  by_cases e : y = x
  · subst e
    rw [upd2_r] at hr
    rw [upd2_h]
    exact h3 hr
  · rw [upd2_other L x h' r' (by omega) (by omega)] at hr ⊢
    exact h.hne y hy hr
theorem Inv.mono {n i j : Nat} {L : Nat → List Pl} {wait : Int} (h : Inv n i L wait) (hij : i ≤ j) : Inv n j L wait := ⟨Nat.le_trans h.tot hij, h.sum, h.hne⟩
theorem goes_ne {h : List Pl} {m : Int} (hg : goesL h m ≠ true) : h ≠ [] := fun e => by subst e; exact hg rfl
theorem come_ne : ∀ (r h : List Pl), (comeL h r).2.1 ≠ [] → (comeL h r).1 ≠ []
  | [], h, hr => absurd rfl hr
  | p :: q, h, hr => by
    rw [comeL] at hr ⊢
    by_cases hg : goesL h p.2 = true
    · rw [if_pos hg] at hr ⊢
      exact come_ne q (h ++ [p]) hr
    · rw [if_neg hg]
      exact goes_ne hg
theorem acq_inv {n i : Nat} {L : Nat → List Pl} {wait most ex mode owner : Int} (h : Inv n i L wait) : Inv n (i + 1) (acqT n L wait most ex mode owner).1 (acqT n L wait most ex mode owner).2.1 := by
  unfold acqT
  by_cases hm : mode ≠ 1 ∧ mode ≠ 2
  · rw [if_pos hm]; exact h.mono (by omega)
  · rw [if_neg hm]
    by_cases hx : ¬ (0 ≤ ex ∧ ex < (n : Int))
    · rw [if_pos hx]; exact h.mono (by omega)
    · rw [if_neg hx]
      have hx2 : 0 ≤ ex ∧ ex < (n : Int) := Classical.not_not.1 hx
      have hxn : ex.toNat < n := by omega
      have hr := h.hne ex.toNat hxn
      unfold acqL
      split
      · exact h.upd hxn (by dsimp only; omega) (by simp) hr
      · split
        · exact h.upd hxn (by simp; omega) (by simp) (fun _ => by simp)
        · split
          · exact h.upd hxn (by dsimp only; omega) (by simp) hr
          · next h1 h2 h3 =>
            refine h.upd hxn (by simp; omega) (by simp; omega) (fun _ => ?_)
            by_cases hr2 : L (ex.toNat * 2 + 1) = []
            · exact goes_ne fun hg => h2 ⟨hr2, hg⟩
            · exact hr hr2
theorem leave_len {h r : List Pl} {o : Int} {q : List Pl × List Pl × List Int × Nat} (hl : leaveL h r o = some q) : q.1.length + q.2.1.length ≤ h.length + r.length ∧ q.2.1.length + q.2.2.1.length + q.2.2.2 = r.length ∧ (q.2.1 ≠ [] → q.1 ≠ []) := by
  unfold leaveL at hl
  split at hl
  · cases hl
    have h1 := comeL_len r (h.eraseIdx (findI h o).toNat)
    have h2 : (h.eraseIdx (findI h o).toNat).length ≤ h.length := List.length_eraseIdx_le _ _
    exact ⟨by dsimp only; omega, by dsimp only; omega, come_ne _ _⟩
  · split at hl
    · next h0 h1 =>
      cases hl
      obtain ⟨i, hi, hil⟩ := findI_ge h1
      have h2 : (r.eraseIdx (findI r o).toNat).length + 1 = r.length := by rw [hi, Int.toNat_natCast, List.length_eraseIdx, if_pos hil]; omega
      have h3 := comeL_len (r.eraseIdx (findI r o).toNat) h
      exact ⟨by dsimp only; omega, by dsimp only; omega, come_ne _ _⟩
    · cases hl
theorem rel_inv {n i : Nat} {L : Nat → List Pl} {wait ex owner : Int} (h : Inv n i L wait) : Inv n i (relT n L wait ex owner).1 (relT n L wait ex owner).2.1 := by
  unfold relT
  by_cases hx : ¬ (0 ≤ ex ∧ ex < (n : Int))
  · rw [if_pos hx]; exact h
  · rw [if_neg hx]
    have hx2 : 0 ≤ ex ∧ ex < (n : Int) := Classical.not_not.1 hx
    have hxn : ex.toNat < n := by omega
    cases hl : leaveL (L (ex.toNat * 2)) (L (ex.toNat * 2 + 1)) owner with
    | none => exact h
    | some q =>
      obtain ⟨h1, h2, h3⟩ := leave_len hl
      exact h.upd hxn (by omega) (by dsimp only; omega) h3
/-- an extent's answer does not hang on how many wait elsewhere -/
theorem acqL_eq {h r : List Pl} {mode owner wa wb most : Int} (h1 : wa < most) (h2 : wb < most) : acqL h r mode owner wa most = acqL h r mode owner wb most := by
  unfold acqL
  rw [if_neg (show ¬ most ≤ wa by omega), if_neg (show ¬ most ≤ wb by omega)]
theorem acq_eq {n x : Nat} {La Lb : Nat → List Pl} {wa wb most mode owner : Int} (hx : x < n) (eh : La (x * 2) = Lb (x * 2)) (er : La (x * 2 + 1) = Lb (x * 2 + 1)) (h1 : wa < most) (h2 : wb < most) :
    (acqT n La wa most (x : Int) mode owner).2.2 = (acqT n Lb wb most (x : Int) mode owner).2.2 ∧ (acqT n La wa most (x : Int) mode owner).1 (x * 2) = (acqT n Lb wb most (x : Int) mode owner).1 (x * 2) ∧ (acqT n La wa most (x : Int) mode owner).1 (x * 2 + 1) = (acqT n Lb wb most (x : Int) mode owner).1 (x * 2 + 1) := by
  unfold acqT
  by_cases hm : mode ≠ 1 ∧ mode ≠ 2
  · rw [if_pos hm, if_pos hm]; exact ⟨rfl, eh, er⟩
  · rw [if_neg hm, if_neg hm]
    rw [if_neg (show ¬ ¬ (0 ≤ (x : Int) ∧ (x : Int) < (n : Int)) by omega), if_neg (show ¬ ¬ (0 ≤ (x : Int) ∧ (x : Int) < (n : Int)) by omega), Int.toNat_natCast, eh, er, acqL_eq h1 h2]
    exact ⟨rfl, by dsimp only; rw [upd2_h, upd2_h], by dsimp only; rw [upd2_r, upd2_r]⟩
theorem rel_eq {n x : Nat} {La Lb : Nat → List Pl} {wa wb owner : Int} (hx : x < n) (eh : La (x * 2) = Lb (x * 2)) (er : La (x * 2 + 1) = Lb (x * 2 + 1)) :
    (relT n La wa (x : Int) owner).2.2 = (relT n Lb wb (x : Int) owner).2.2 ∧ (relT n La wa (x : Int) owner).1 (x * 2) = (relT n Lb wb (x : Int) owner).1 (x * 2) ∧ (relT n La wa (x : Int) owner).1 (x * 2 + 1) = (relT n Lb wb (x : Int) owner).1 (x * 2 + 1) := by
  unfold relT
  rw [if_neg (show ¬ ¬ (0 ≤ (x : Int) ∧ (x : Int) < (n : Int)) by omega), if_neg (show ¬ ¬ (0 ≤ (x : Int) ∧ (x : Int) < (n : Int)) by omega), Int.toNat_natCast, eh, er]
  cases leaveL (Lb (x * 2)) (Lb (x * 2 + 1)) owner with
  | none => exact ⟨rfl, eh, er⟩
  | some q => exact ⟨rfl, by dsimp only; rw [upd2_h, upd2_h], by dsimp only; rw [upd2_r, upd2_r]⟩
theorem acq_far {n x : Nat} {L : Nat → List Pl} {wait most ex mode owner : Int} (hx : ex ≠ (x : Int)) : (acqT n L wait most ex mode owner).1 (x * 2) = L (x * 2) ∧ (acqT n L wait most ex mode owner).1 (x * 2 + 1) = L (x * 2 + 1) := by
  unfold acqT
  split
  · exact ⟨rfl, rfl⟩
  · split
    · exact ⟨rfl, rfl⟩
    · next h1 h2 =>
      have h3 : 0 ≤ ex ∧ ex < (n : Int) := Classical.not_not.1 h2
      exact ⟨upd2_other _ _ _ _ (by omega) (by omega), upd2_other _ _ _ _ (by omega) (by omega)⟩
theorem rel_far {n x : Nat} {L : Nat → List Pl} {wait ex owner : Int} (hx : ex ≠ (x : Int)) : (relT n L wait ex owner).1 (x * 2) = L (x * 2) ∧ (relT n L wait ex owner).1 (x * 2 + 1) = L (x * 2 + 1) := by
  unfold relT
  split
  · exact ⟨rfl, rfl⟩
  · next h2 =>
    have h3 : 0 ≤ ex ∧ ex < (n : Int) := Classical.not_not.1 h2
    split
    · exact ⟨rfl, rfl⟩
    · exact ⟨upd2_other _ _ _ _ (by omega) (by omega), upd2_other _ _ _ _ (by omega) (by omega)⟩
/-- behind an Exclusive one's coming somebody holds -/
theorem acq_held {n x : Nat} {L : Nat → List Pl} {wait owner : Int} (hx : x < n) (hne : Hne n L) (hw : wait < 512) : (acqT n L wait 512 (x : Int) 2 owner).1 (x * 2) ≠ [] := by
  unfold acqT
  rw [if_neg (show ¬ ((2 : Int) ≠ 1 ∧ (2 : Int) ≠ 2) by omega), if_neg (show ¬ ¬ (0 ≤ (x : Int) ∧ (x : Int) < (n : Int)) by omega), Int.toNat_natCast]
  dsimp only
  rw [upd2_h]
  unfold acqL
  split
  · next h1 =>
    dsimp only
    intro e
    rcases h1 with h1 | h1
    · obtain ⟨i, _, hi⟩ := findI_ge h1
      rw [e] at hi; cases hi
    · obtain ⟨i, _, hi⟩ := findI_ge h1
      exact hne x hx (fun e2 => by rw [e2] at hi; cases hi) e
  · split
    · simp
    · next h1 h2 =>
      rw [if_neg (show ¬ (512 : Int) ≤ wait by omega)]
      dsimp only
      by_cases hr : L (x * 2 + 1) = []
      · exact goes_ne fun hg => h2 ⟨hr, hg⟩
      · exact hne x hx hr
/-- two tables, alike at one extent -/
structure Two (w wr : World) (Ta Ea Tb Eb n x i : Nat) (Va Vb : Nat → Value) (La Lb : Nat → List Pl) (wa wb : Int) : Prop where
  ta : TabS w.heap.size wr Ta Ea n 0 512 wa Va La
  tb : TabS w.heap.size wr Tb Eb n 0 512 wb Vb Lb
  dj : ∀ k, Fp Ta Ea n Va k → ¬ Fp Tb Eb n Vb k
  ia : Inv n i La wa
  ib : Inv n i Lb wb
  eh : La (x * 2) = Lb (x * 2)
  er : La (x * 2 + 1) = Lb (x * 2 + 1)
  bel : Below w.heap.size w wr
section
variable {w wr wr' : World} {Ta Ea Tb Eb n x i : Nat} {Va Vb V' : Nat → Value} {La Lb L' : Nat → List Pl} {wa wb w1 : Int}
theorem Two.below (h : Two w wr Ta Ea Tb Eb n x i Va Vb La Lb wa wb) (hB : Below wr.heap.size wr wr') : Two w wr' Ta Ea Tb Eb n x i Va Vb La Lb wa wb :=
  ⟨h.ta.below hB, h.tb.below hB, h.dj, h.ia, h.ib, h.eh, h.er, h.bel.trans (hB.mono h.bel.size)⟩
theorem Two.more {j : Nat} (h : Two w wr Ta Ea Tb Eb n x i Va Vb La Lb wa wb) (hj : i ≤ j) : Two w wr Ta Ea Tb Eb n x j Va Vb La Lb wa wb :=
  ⟨h.ta, h.tb, h.dj, h.ia.mono hj, h.ib.mono hj, h.eh, h.er, h.bel⟩
/-- the first table is called -/
theorem Two.stepA (h : Two w wr Ta Ea Tb Eb n x i Va Vb La Lb wa wb) (hT : TabS w.heap.size wr' Ta Ea n 0 512 w1 V' L') (hC : Chg (fun k _ => Fp Ta Ea n Va k) wr wr') (hF : ∀ k, Fp Ta Ea n V' k → Fp Ta Ea n Va k ∨ wr.heap.size ≤ k) :
    TabS w.heap.size wr' Tb Eb n 0 512 wb Vb Lb ∧ (∀ k, Fp Ta Ea n V' k → ¬ Fp Tb Eb n Vb k) ∧ Below w.heap.size w wr' := by
  refine ⟨h.tb.keep hC fun k hk i hf => h.dj k hf hk, fun k hk hb => ?_, h.bel.trans (hC.below h.bel.size fun k i hk hf => ?_)⟩
  · rcases hF k hk with h1 | h1
    · exact h.dj k h1 hb
    · have := (h.tb.fpLt hb).2; omega
  · have := (h.ta.fpLt hf).1; omega
theorem Two.stepB (h : Two w wr Ta Ea Tb Eb n x i Va Vb La Lb wa wb) (hT : TabS w.heap.size wr' Tb Eb n 0 512 w1 V' L') (hC : Chg (fun k _ => Fp Tb Eb n Vb k) wr wr') (hF : ∀ k, Fp Tb Eb n V' k → Fp Tb Eb n Vb k ∨ wr.heap.size ≤ k) :
    TabS w.heap.size wr' Ta Ea n 0 512 wa Va La ∧ (∀ k, Fp Ta Ea n Va k → ¬ Fp Tb Eb n V' k) ∧ Below w.heap.size w wr' := by
  refine ⟨h.ta.keep hC fun k hk i hf => h.dj k hk hf, fun k hk hb => ?_, h.bel.trans (hC.below h.bel.size fun k i hk hf => ?_)⟩
  · rcases hF k hb with h1 | h1
    · exact h.dj k hk h1
    · have := (h.ta.fpLt hk).2; omega
  · have := (h.tb.fpLt hf).1; omega
end
/-- what a script's call does to a table -/
def callT (n : Nat) (L : Nat → List Pl) (wait most kind ex mode owner : Int) : (Nat → List Pl) × Int :=
  if kind = 1 then ((acqT n L wait most ex mode owner).1, (acqT n L wait most ex mode owner).2.1)
  else if kind = 2 then ((relT n L wait ex owner).1, (relT n L wait ex owner).2.1)
  else (L, wait)
set_option maxHeartbeats 4000000 in
theorem call_any (base T E n : Nat) (most kind ex mode owner : Int) (sec : Bool) (V : Nat → Value) (wait : Int) (L : Nat → List Pl) (w : World) (hk : kind ≠ 3) (h : TabS base w T E n 0 most wait V L) (hn : n ≤ 4096) (hb : ∀ i, i < 2 * n → (L i).length ≤ 4000000000000) (hw : 0 ≤ wait ∧ wait ≤ 1000000) (hbr : ∀ i, i < 2 * n → i % 2 = 1 → (L i).length ≤ 1000000) :
    Calls Try.prog 20 #[.pointer (some ⟨T, 0, none⟩), .agg #[.int .i64 kind, .bool sec, .int .i64 ex, .int .i64 mode, .int .i64 owner]] w fun e w' => e = .returned (.tuple #[]) ∧ ∃ V' : Nat → Value, TabS base w' T E n 0 most (callT n L wait most kind ex mode owner).2 V' (callT n L wait most kind ex mode owner).1 ∧ Chg (fun k _ => Fp T E n V k) w w' ∧ (∀ k, Fp T E n V' k → Fp T E n V k ∨ w.heap.size ≤ k) := by
  have hB : Below w.heap.size w (w.alloc (.cells #[.int .i64 kind, .bool sec, .int .i64 ex, .int .i64 mode, .int .i64 owner] 33)) := (Below.refl w.heap.size w).alloc (Nat.le_refl _) _
  have h1 := h.below hB
  have g1 := Lib.hid (acquireM_any base T E n most ex mode owner V wait L (w.alloc (.cells #[.int .i64 kind, .bool sec, .int .i64 ex, .int .i64 mode, .int .i64 owner] 33)) h1 hn hb hw)
  have g2 := Lib.hid (releaseM_any base T E n most ex owner V wait L (w.alloc (.cells #[.int .i64 kind, .bool sec, .int .i64 ex, .int .i64 mode, .int .i64 owner] 33)) h1 hn hb hw hbr)
  have H1 := Lib.hid h1
  have BW := Lib.hid hB
  clear h h1 hB
  by_cases k1 : kind = 1
  · subst k1
    rw [show callT n L wait most 1 ex mode owner = ((acqT n L wait most ex mode owner).1, (acqT n L wait most ex mode owner).2.1) from if_pos rfl]
    go_enter Try.func20, Try.ntmps20
    go_wp2_with fail
    refine g1.out.mono ?_
    rintro e w1 ⟨rfl, V', hT, hC, hF⟩
    have HT := Lib.hid hT
    have HC := Lib.hid ((Chg.of_below (fun k _ => Fp T E n V k) BW.out).trans hC fun _ _ _ h => h)
    have HF := Lib.hid hF
    clear g1 g2 hT hC hF
    go_wp2
    go_end0
    exact ⟨rfl, V', HT.out, HC.out, fun k hk => (HF.out k hk).imp id fun h => Nat.le_trans BW.out.size h⟩
  · have k1' : (kind == 1) = false := by rw [beq_eq_false_iff_ne]; exact k1
    by_cases k2 : kind = 2
    · subst k2
      rw [show callT n L wait most 2 ex mode owner = ((relT n L wait ex owner).1, (relT n L wait ex owner).2.1) from (if_neg (by decide)).trans (if_pos rfl)]
      go_enter Try.func20, Try.ntmps20
      go_wp2_with fail
      refine g2.out.mono ?_
      rintro e w1 ⟨A, c, rfl, _, _, V', hT, hC, hF⟩
      have HT := Lib.hid hT
      have HC := Lib.hid ((Chg.of_below (fun k _ => Fp T E n V k) BW.out).trans hC fun _ _ _ h => h)
      have HF := Lib.hid hF
      clear g1 g2 hT hC hF
      go_wp2
      go_end0
      exact ⟨rfl, V', HT.out, HC.out, fun k hk => (HF.out k hk).imp id fun h => Nat.le_trans BW.out.size h⟩
    · have k2' : (kind == 2) = false := by rw [beq_eq_false_iff_ne]; exact k2
      have k3' : (kind == 3) = false := by rw [beq_eq_false_iff_ne]; exact hk
      have hct : callT n L wait most kind ex mode owner = (L, wait) := (if_neg k1).trans (if_neg k2)
      rw [hct]
      clear g1 g2 hct
      go_enter Try.func20, Try.ntmps20
      go_wp2_with fail
      go_end0
      exact ⟨rfl, V, H1.out, Chg.of_below _ BW.out, fun k hk => .inl hk⟩
end Go.Proofs.Ytkjbjfjgnponfaa
