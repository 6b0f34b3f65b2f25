/- Package replicalaw09: fairness at one extent, plain laws; the Ledger beside the table. -/
import Derived.Test.YtkjbjfjgnponfaaLkM
namespace Go.Proofs.Ytkjbjfjgnponfaa
open Go.RowKit
set_option linter.unusedSimpArgs false
set_option linter.unusedVariables false
theorem findI_mem {l : List Pl} {o : Int} : 0 ≤ findI l o ↔ o ∈ l.map (·.1) := by
  unfold findI
  cases hf : l.findIdx? (hasO o) with
  | none =>
    rw [List.findIdx?_eq_none_iff] at hf
    refine ⟨fun h => by simp at h, fun h => ?_⟩
    obtain ⟨p, hp, e⟩ := List.mem_map.1 h
    have := hf p hp
    unfold hasO at this
    rw [e] at this
    simp at this
  | some i =>
    rw [List.findIdx?_eq_some_iff_getElem] at hf
    obtain ⟨hi, h1, _⟩ := hf
    refine ⟨fun _ => List.mem_map.2 ⟨l[i], List.getElem_mem hi, by unfold hasO at h1; simpa using h1⟩, fun _ => by dsimp only; omega⟩
theorem rm_none {l : List Pl} {o : Int} (h : o ∉ l.map (·.1)) : rmP l o = l := by
  unfold rmP
  rw [List.filter_eq_self]
  intro p hp
  rw [bne_iff_ne]
  exact fun e => h (List.mem_map.2 ⟨p, hp, e⟩)
theorem erase_rm : ∀ {l : List Pl} {o : Int}, (l.map (·.1)).Nodup → 0 ≤ findI l o → l.eraseIdx (findI l o).toNat = rmP l o
  | [], o, _, h => by simp [findI] at h
  | p :: q, o, hn, h => by
    rw [List.map_cons, List.nodup_cons] at hn
    cases hp : (p.1 == o) with
    | true =>
      have e : p.1 = o := by simpa using hp
      have hf : findI (p :: q) o = 0 := by
        unfold findI
        rw [List.findIdx?_cons]
        simp [hasO, hp]
      rw [hf]
      show q = rmP (p :: q) o
      have : rmP (p :: q) o = rmP q o := by
        unfold rmP
        rw [List.filter_cons]
        simp [bne, hp]
      rw [this, rm_none (by rw [← e]; exact hn.1)]
    | false =>
      have hf : findI (p :: q) o = if 0 ≤ findI q o then findI q o + 1 else -1 := by
        unfold findI
        rw [List.findIdx?_cons]
        have hh : hasO o p = false := hp
        rw [hh]
        cases hq : q.findIdx? (hasO o) with
        | none => simp
        | some i => simp
      have hq0 : 0 ≤ findI q o := by
        rw [hf] at h
        split at h
        · assumption
        · omega
      rw [if_pos hq0] at hf
      have ih := erase_rm hn.2 hq0
      rw [hf, show (findI q o + 1).toNat = (findI q o).toNat + 1 by omega, List.eraseIdx_cons_succ, ih]
      unfold rmP
      rw [List.filter_cons]
      simp [bne, hp]
theorem rm_map (l : List Pl) (o : Int) : rmI (l.map (·.1)) o = (rmP l o).map (·.1) := by
  unfold rmI rmP
  rw [List.filter_map]
  rfl
theorem come_app : ∀ (r h : List Pl), (comeL h r).1 ++ (comeL h r).2.1 = h ++ r
  | [], h => rfl
  | p :: q, h => by
    rw [comeL]
    split
    · have := come_app q (h ++ [p])
      dsimp only
      rw [this]
      simp
    · rfl
/-- an owner's coming, at one extent -/
theorem acq_fair {n x : Nat} {L : Nat → List Pl} {wait mode owner : Int} (hx : x < n) (hne : Hne n L) (hm : mode = 1 ∨ mode = 2) (hw : wait < 512) :
    ((owner ∈ (L (x * 2)).map (·.1) ∨ owner ∈ (L (x * 2 + 1)).map (·.1)) ∧ (acqT n L wait 512 (x : Int) mode owner).2.2.1 = false ∧ (acqT n L wait 512 (x : Int) mode owner).2.2.2 = 91 ∧ (acqT n L wait 512 (x : Int) mode owner).1 (x * 2) = L (x * 2) ∧ (acqT n L wait 512 (x : Int) mode owner).1 (x * 2 + 1) = L (x * 2 + 1)) ∨
    ((owner ∉ (L (x * 2)).map (·.1) ∧ owner ∉ (L (x * 2 + 1)).map (·.1)) ∧ (acqT n L wait 512 (x : Int) mode owner).2.2.1 = true ∧ (acqT n L wait 512 (x : Int) mode owner).2.2.2 = 0 ∧ L (x * 2 + 1) = [] ∧ (acqT n L wait 512 (x : Int) mode owner).1 (x * 2) = L (x * 2) ++ [(owner, mode)] ∧ (acqT n L wait 512 (x : Int) mode owner).1 (x * 2 + 1) = L (x * 2 + 1)) ∨
    ((owner ∉ (L (x * 2)).map (·.1) ∧ owner ∉ (L (x * 2 + 1)).map (·.1)) ∧ (acqT n L wait 512 (x : Int) mode owner).2.2.1 = false ∧ (acqT n L wait 512 (x : Int) mode owner).2.2.2 = 0 ∧ L (x * 2) ≠ [] ∧ (acqT n L wait 512 (x : Int) mode owner).1 (x * 2) = L (x * 2) ∧ (acqT n L wait 512 (x : Int) mode owner).1 (x * 2 + 1) = L (x * 2 + 1) ++ [(owner, mode)]) := by
  unfold acqT
  rw [if_neg (show ¬ (mode ≠ 1 ∧ mode ≠ 2) by omega), if_neg (show ¬ ¬ (0 ≤ (x : Int) ∧ (x : Int) < (n : Int)) by omega), Int.toNat_natCast]
  dsimp only
  rw [upd2_h, upd2_r]
  unfold acqL
  by_cases h1 : 0 ≤ findI (L (x * 2)) owner ∨ 0 ≤ findI (L (x * 2 + 1)) owner
  · rw [if_pos h1]
    exact .inl ⟨h1.imp findI_mem.1 findI_mem.1, rfl, rfl, rfl, rfl⟩
  · rw [if_neg h1]
    have h1' : owner ∉ (L (x * 2)).map (·.1) ∧ owner ∉ (L (x * 2 + 1)).map (·.1) := ⟨fun h => h1 (.inl (findI_mem.2 h)), fun h => h1 (.inr (findI_mem.2 h))⟩
    by_cases h2 : L (x * 2 + 1) = [] ∧ goesL (L (x * 2)) mode = true
    · rw [if_pos h2]
      exact .inr (.inl ⟨h1', rfl, rfl, h2.1, rfl, rfl⟩)
    · rw [if_neg h2, if_neg (show ¬ (512 : Int) ≤ wait by omega)]
      refine .inr (.inr ⟨h1', rfl, rfl, ?_, rfl, rfl⟩)
      by_cases hr : L (x * 2 + 1) = []
      · exact goes_ne fun hg => h2 ⟨hr, hg⟩
      · exact hne x hx hr
/-- an owner's leaving, at one extent -/
theorem rel_fair {n x : Nat} {L : Nat → List Pl} {wait owner : Int} (hx : x < n) (hnd : ((L (x * 2) ++ L (x * 2 + 1)).map (·.1)).Nodup) :
    ((owner ∉ (L (x * 2)).map (·.1) ∧ owner ∉ (L (x * 2 + 1)).map (·.1)) ∧ (relT n L wait (x : Int) owner).2.2.1 = [] ∧ (relT n L wait (x : Int) owner).2.2.2 = 92 ∧ (relT n L wait (x : Int) owner).1 (x * 2) = L (x * 2) ∧ (relT n L wait (x : Int) owner).1 (x * 2 + 1) = L (x * 2 + 1)) ∨
    ((owner ∈ (L (x * 2)).map (·.1) ∨ owner ∈ (L (x * 2 + 1)).map (·.1)) ∧ (relT n L wait (x : Int) owner).2.2.2 = 0 ∧
      comeL (rmP (L (x * 2)) owner) (rmP (L (x * 2 + 1)) owner) = ((relT n L wait (x : Int) owner).1 (x * 2), (relT n L wait (x : Int) owner).1 (x * 2 + 1), (relT n L wait (x : Int) owner).2.2.1)) := by
  unfold relT
  rw [if_neg (show ¬ ¬ (0 ≤ (x : Int) ∧ (x : Int) < (n : Int)) by omega), Int.toNat_natCast]
  rw [List.map_append, List.nodup_append] at hnd
  obtain ⟨n1, n2, n3⟩ := hnd
  unfold leaveL
  by_cases h1 : 0 ≤ findI (L (x * 2)) owner
  · rw [if_pos h1]
    have hm := findI_mem.1 h1
    have hno : owner ∉ (L (x * 2 + 1)).map (·.1) := fun h => n3 owner hm owner h rfl
    refine .inr ⟨.inl hm, rfl, ?_⟩
    dsimp only
    rw [upd2_h, upd2_r, erase_rm n1 h1, rm_none hno]
  · rw [if_neg h1]
    have hno : owner ∉ (L (x * 2)).map (·.1) := fun h => h1 (findI_mem.2 h)
    by_cases h2 : 0 ≤ findI (L (x * 2 + 1)) owner
    · rw [if_pos h2]
      have hm := findI_mem.1 h2
      refine .inr ⟨.inr hm, rfl, ?_⟩
      dsimp only
      rw [upd2_h, upd2_r, erase_rm n2 h2, rm_none hno]
    · rw [if_neg h2]
      exact .inl ⟨⟨hno, fun h => h2 (findI_mem.2 h)⟩, rfl, rfl, rfl, rfl⟩
/-- the table and the Ledger of one extent -/
structure FairS (base : Nat) (w : World) (T E n Q x i : Nat) (V : Nat → Value) (L : Nat → List Pl) (wait : Int) (VL : Nat → Value) : Prop where
  tab : TabS base w T E n 0 512 wait V L
  led : LdS base w Q VL (LdL (L (x * 2 + 1)) ((L (x * 2)).map (·.1)))
  inv : Inv n i L wait
  nod : ((L (x * 2) ++ L (x * 2 + 1)).map (·.1)).Nodup
section
variable {base : Nat} {w w' : World} {T E n Q x i : Nat} {V V' VL : Nat → Value} {L L' : Nat → List Pl} {wait w1 : Int}
theorem FairS.below (h : FairS base w T E n Q x i V L wait VL) (hB : Below w.heap.size w w') : FairS base w' T E n Q x i V L wait VL := ⟨h.tab.below hB, h.led.below hB, h.inv, h.nod⟩
theorem FairS.more (h : FairS base w T E n Q x i V L wait VL) : FairS base w T E n Q x (i + 1) V L wait VL := ⟨h.tab, h.led, h.inv.mono (Nat.le_succ i), h.nod⟩
theorem TabS.bel (h : TabS base w T E n 0 512 wait V L) (hC : Chg (fun k _ => Fp T E n V k) w w') : Below base w w' := hC.below (Nat.le_trans h.hT (Nat.le_of_lt h.tb.lt)) fun k i hk hf => by have := (h.fpLt hf).1; omega
theorem LdS.bel {LL : Nat → List Int} (h : LdS base w Q VL LL) (hC : Chg (fun k _ => LdF Q VL k) w w') : Below base w w' := hC.below (Nat.le_trans h.hQ (Nat.le_of_lt h.blk.lt)) fun k i hk hf => by have := (h.lt hf).1; omega
theorem LdS.keepT {LL : Nat → List Int} {m : Int} (h : LdS base w Q VL LL) (ht : TabS base w T E n 0 m wait V L) (hC : Chg (fun k _ => Fp T E n V k) w w') : LdS base w' Q VL LL := h.keep hC fun k hk _ hf => h.tab ht hk hf
theorem TabS.keepL {LL : Nat → List Int} {m : Int} (h : TabS base w T E n 0 m wait V L) (hl : LdS base w Q VL LL) (hC : Chg (fun k _ => LdF Q VL k) w w') : TabS base w' T E n 0 m wait V L := h.keep hC fun k hk _ hf => hl.tab h hf hk
end
theorem nodup_add {h r : List Pl} {o m : Int} (hn : ((h ++ r).map (·.1)).Nodup) (h1 : o ∉ h.map (·.1)) (h2 : o ∉ r.map (·.1)) : ((h ++ (r ++ [(o, m)])).map (·.1)).Nodup := by
  rw [← List.append_assoc, List.map_append, List.nodup_append]
  refine ⟨hn, by simp, fun a ha b hb e => ?_⟩
  simp only [List.map_cons, List.map_nil, List.mem_singleton] at hb
  subst hb
  subst e
  rw [List.map_append, List.mem_append] at ha
  rcases ha with h | h
  · exact h1 h
  · exact h2 h
theorem nodup_rm {h r h2 r2 : List Pl} {o : Int} {g : List Int} (hn : ((h ++ r).map (·.1)).Nodup) (hc : comeL (rmP h o) (rmP r o) = (h2, r2, g)) : ((h2 ++ r2).map (·.1)).Nodup := by
  have h1 := come_app (rmP r o) (rmP h o)
  rw [hc] at h1
  dsimp only at h1
  rw [h1, show rmP h o ++ rmP r o = rmP (h ++ r) o from (List.filter_append ..).symm]
  exact hn.sublist (List.Sublist.map _ List.filter_sublist)
end Go.Proofs.Ytkjbjfjgnponfaa
