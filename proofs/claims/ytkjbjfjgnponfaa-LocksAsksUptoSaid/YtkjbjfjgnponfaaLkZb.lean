/- The document's table of locks: Release, Drop, by contract. -/
import Derived.Test.YtkjbjfjgnponfaaLkZ
namespace Go.Proofs.Ytkjbjfjgnponfaa
open Go.RowKit
set_option linter.unusedSimpArgs false
set_option linter.unusedVariables false
def slLen : Value → Nat
  | .slice _ n _ => n
  | _ => 0
/-- a place's two cells are written -/
theorem RefS.come {base R n c i : Nat} {wr : World} {most turns : Int} {g : Nat} {P : List RP} {p : RP} (h : RefS base wr R n most (some ⟨g, 0, none⟩) c P turns) (hp : P[i]? = some p) (z : Int) :
    RefS base ((wr.setCell ⟨g, i * 5 + 3, none⟩ (.bool true)).setCell ⟨g, i * 5 + 4, none⟩ (.int .i64 z)) R n most (some ⟨g, 0, none⟩) c (P.set i (p.1, p.2.1, p.2.2.1, true, z)) turns := by
  have hil : i < P.length := (List.getElem?_eq_some_iff.1 hp).1
  have hgR : g ≠ R := by
    rcases h.gsl with ⟨h2, _⟩ | ⟨g2, o2, cs2, h2, _, _, h3, _⟩
    · cases h2
    · cases h2; exact blk_type_ne h3 h.blk (by decide)
  refine ⟨?_, ?_, h.loc, h.hR⟩
  · rw [List.length_set]
    exact (h.blk.far (p := ⟨g, i * 5 + 3, none⟩) (fun e => hgR e.symm) _).far (p := ⟨g, i * 5 + 4, none⟩) (fun e => hgR e.symm) _
  · rcases h.gsl with ⟨h2, _⟩ | ⟨g2, o2, cs, h2, k1, k2, k3, k4, k5⟩
    · cases h2
    · cases h2
      have b1 : Blk wr g 104 cs := k3
      refine .inr ⟨g, 0, (cs.setIfInBounds (i * 5 + 3) (.bool true)).setIfInBounds (i * 5 + 4) (.int .i64 z), rfl, by rw [List.length_set]; exact k1, k2, (b1.set_ _ _).set_ _ _, by simpa using k4, fun j x hx q v hv => ?_⟩
      have hq : q < 5 := by
        have := (List.getElem?_eq_some_iff.1 hv).1
        rwa [encR_len] at this
      have hji : j < P.length := by
        have := (List.getElem?_eq_some_iff.1 hx).1
        rwa [List.length_set] at this
      have hsz : P.length * 5 ≤ c * 5 := Nat.mul_le_mul_right _ k1
      have hin : j * 5 + q < cs.size := by omega
      by_cases e : j = i
      · subst e
        rw [List.getElem?_set_self (by omega)] at hx
        cases hx
        match q, hq with
        | 0, _ => rw [Array.getElem?_setIfInBounds_ne (by omega), Array.getElem?_setIfInBounds_ne (by omega)]; exact k5 j p hp 0 v hv
        | 1, _ => rw [Array.getElem?_setIfInBounds_ne (by omega), Array.getElem?_setIfInBounds_ne (by omega)]; exact k5 j p hp 1 v hv
        | 2, _ => rw [Array.getElem?_setIfInBounds_ne (by omega), Array.getElem?_setIfInBounds_ne (by omega)]; exact k5 j p hp 2 v hv
        | 3, _ =>
          rw [Array.getElem?_setIfInBounds_ne (by omega), show 0 + (j * 5 + 3) = j * 5 + 3 by omega, Array.getElem?_setIfInBounds_self_of_lt hin]
          exact hv
        | 4, _ =>
          rw [show 0 + (j * 5 + 4) = j * 5 + 4 by omega, Array.getElem?_setIfInBounds_self_of_lt (by rw [Array.size_setIfInBounds]; exact hin)]
          exact hv
      · rw [List.getElem?_set_ne (fun e2 => e e2.symm)] at hx
        rw [Array.getElem?_setIfInBounds_ne (by omega), Array.getElem?_setIfInBounds_ne (by omega)]
        exact k5 j x hx q v hv
theorem take_erase {P : List RP} {k i : Nat} {p : RP} (hp : P[i]? = some p) : (P.take (i + 1)).eraseIdx k = if i = k then (P.take i).eraseIdx k else (P.take i).eraseIdx k ++ (if i < k then [p] else [p]) := by
  have hi : i < P.length := (List.getElem?_eq_some_iff.1 hp).1
  have ht : P.take (i + 1) = P.take i ++ [p] := by rw [List.take_add_one, hp]; rfl
  have hl : (P.take i).length = i := by rw [List.length_take]; omega
  rw [ht]
  by_cases e : i = k
  · subst e
    rw [if_pos rfl, List.eraseIdx_append_of_length_le (by omega), List.eraseIdx_of_length_le (by omega : (P.take i).length ≤ i), hl]
    simp
  · rw [if_neg e]
    rcases Nat.lt_or_ge k i with h | h
    · rw [List.eraseIdx_append_of_lt_length (by omega)]
      simp
    · rw [List.eraseIdx_of_length_le (by rw [List.length_append, hl]; simp; omega), List.eraseIdx_of_length_le (by omega : (P.take i).length ≤ k)]
      simp
/-- what Release answers, when the owner has a place -/
theorem rel_found {n x : Nat} {L : Nat → List Pl} {P : List RP} {turns wait o : Int} (h : Sim n L P turns) (hg : Good n L) (hx : x < n) :
    (¬ 0 ≤ idxI P (ownB (x : Int) o) → relT n L wait (x : Int) o = (L, wait, [], 92)) ∧
    (0 ≤ idxI P (ownB (x : Int) o) → (relT n L wait (x : Int) o).2.2.2 = 0 ∧ (∀ j, j < 2 * n → (relT n L wait (x : Int) o).1 j = upd (upd L (x * 2) (comeL (rmP (L (x * 2)) o) (rmP (L (x * 2 + 1)) o)).1) (x * 2 + 1) (comeL (rmP (L (x * 2)) o) (rmP (L (x * 2 + 1)) o)).2.1 j) ∧ (relT n L wait (x : Int) o).2.2.1 = (comeL (rmP (L (x * 2)) o) (rmP (L (x * 2 + 1)) o)).2.2) := by
  have hmem := h.mem hx o
  rcases rel_fair (wait := wait) (owner := o) hx (hg x hx).nod with ⟨⟨h1, h2⟩, _⟩ | ⟨h1, h2, h3⟩
  · refine ⟨fun _ => ?_, fun h5 => absurd (hmem.2 h5) (fun h6 => h6.elim h1 h2)⟩
    rcases rel_two (wait := wait) (o := o) hx hg with ⟨_, e, _⟩ | ⟨_, e, _⟩
    · exact e
    · exact absurd e (fun h6 => h6.elim h1 h2)
  · refine ⟨fun h5 => absurd (hmem.1 h1) h5, fun _ => ⟨h2, fun j hj => ?_, by rw [h3]⟩⟩
    rw [h3]
    dsimp only
    by_cases e1 : j = x * 2
    · subst e1; rw [upd2_h]
    · by_cases e2 : j = x * 2 + 1
      · subst e2; rw [upd2_r]
      · rw [upd2_other _ _ _ _ e1 e2]
        rw [relT_at hx]
        cases leaveL (L (x * 2)) (L (x * 2 + 1)) o with
        | none => rfl
        | some q => exact upd2_other _ _ _ _ e1 e2
set_option maxRecDepth 20000 in
set_option maxHeartbeats 16000000 in
theorem rrel_any (base R n i c : Nat) (most : Int) (A : Option Addr) (P : List RP) (turns wait : Int) (L : Nat → List Pl) (ex owner : Int) (w : World) (h : RS base w R n i most A c P turns L) (hG : Good n L) (hn : n ≤ 4096) (hi : i ≤ 3000000000000) :
    Calls Try.prog 41 #[.pointer (some ⟨R, 0, none⟩), .int .i64 ex, .int .i64 owner] w fun e w' => ∃ Ag gc, e = .returned (.tuple #[.slice Ag (relT n L wait ex owner).2.2.1.length gc, .int .i64 (relT n L wait ex owner).2.2.2]) ∧ KO w' Ag gc (relT n L wait ex owner).2.2.1 ∧ ROk base w w' R n i most A (relT n L wait ex owner).1 := by
  have H := Lib.hid h
  have HG := Lib.hid hG
  obtain ⟨kb, hkb⟩ : ∃ kb, kb = (decide (0 ≤ ex) && decide (ex < (n : Int))) := ⟨_, rfl⟩
  have gt := there_any R n ex w (h.s.blk.cell 0)
  rw [← hkb] at gt
  have GT := Lib.hid gt
  have HKB := Lib.hid hkb
  obtain ⟨pn, hpn⟩ : ∃ pn, pn = P.length := ⟨_, rfl⟩
  have PN := Lib.hid hpn.symm
  have hpb : pn ≤ 3000000000000 := by rw [hpn]; exact Nat.le_trans h.len hi
  have c2 : w.cell? ⟨R, 2, none⟩ = some (.slice A pn c) := by rw [hpn]; exact h.s.blk.cell 2
  have C2 := Lib.hid c2
  clear h hG gt hkb hpn c2
  go_enter Try.func41, Try.ntmps41
  go_wp2_with fail
  refine GT.out.mono ?_
  rintro e w' ⟨rfl, rfl⟩
  clear GT
  by_cases hx : 0 ≤ ex ∧ ex < (n : Int)
  case neg =>
    obtain rfl : kb = false := by
      rw [HKB.out, Bool.and_eq_false_iff]
      by_cases h1 : 0 ≤ ex
      · exact .inr (decide_eq_false fun h2 => hx ⟨h1, h2⟩)
      · exact .inl (decide_eq_false h1)
    have e1 := Lib.hid (show relT n L wait ex owner = (L, wait, [], 2) from by unfold relT; rw [if_pos hx])
    clear hx
    go_wp2
    go_ret2
    rw [e1.out]
    exact ⟨none, 0, rfl, ⟨GSl.nil_, .inl rfl⟩, H.out.ok (Below.refl _ _) (Nat.le_refl i)⟩
  obtain rfl : kb = true := by rw [HKB.out, decide_eq_true hx.1, decide_eq_true hx.2]; rfl
  obtain ⟨x, hxe⟩ : ∃ x : Nat, ex = (x : Int) := ⟨ex.toNat, by omega⟩
  subst hxe
  have hxn : x < n := by omega
  obtain ⟨W1, W2⟩ := rel_found (wait := wait) (o := owner) H.out.sim HG.out hxn
  have V1 := Lib.hid W1
  have V2 := Lib.hid W2
  obtain ⟨fi, hfi⟩ : ∃ fi, fi = idxI P (ownB (x : Int) owner) := ⟨_, rfl⟩
  have gf := rfind_any R pn c A P (x : Int) owner w PN.out (by omega) C2.out H.out.s.gsl.rds
  rw [← hfi] at gf V1 V2
  have GF := Lib.hid gf
  have HFI := Lib.hid hfi
  clear W1 W2 gf hfi hx
  go_wp2_with fail
  refine GF.out.mono ?_
  rintro e w' ⟨rfl, rfl⟩
  clear GF
  by_cases hf : fi < 0
  · have e1 := Lib.hid (V1.out (by omega))
    go_wp2
    go_ret2
    rw [e1.out]
    exact ⟨none, 0, rfl, ⟨GSl.nil_, .inl rfl⟩, H.out.ok (Below.refl _ _) (Nat.le_refl i)⟩
  obtain ⟨k, pk, hke, hki, hkp, _⟩ := idxI_ge (show 0 ≤ idxI P (ownB (x : Int) owner) by rw [← HFI.out]; omega)
  obtain rfl : fi = (k : Int) := by rw [HFI.out, hke]
  have hkl : k < pn := by rw [← PN.out]; exact (List.getElem?_eq_some_iff.1 hkp).1
  have E2 := Lib.hid (V2.out (by omega))
  have HKI := Lib.hid hki
  have hRlt := H.out.s.blk.lt
  clear V1 V2 hke hki hkp hf HFI
  go_wp2_with fail
  go_loopw [10, 11] (fun t10 t11 wr => ∃ (j : Nat) (Ar : Option Addr) (rn rc : Nat), j ≤ pn ∧ t11 = .int .i64 (j : Int) ∧ t10 = .slice Ar rn rc ∧ rn ≤ j ∧ Hid (GSl encR 5 104 wr Ar rc ((P.take j).eraseIdx k)) ∧ Hid (((P.take j).eraseIdx k).length = rn) ∧ Hid (Ar = none ∨ ∃ g, Ar = some ⟨g, 0, none⟩ ∧ w.heap.size ≤ g) ∧ Hid (Below w.heap.size w wr)) (fun _ t11 _ => pn - (intOf t11).toNat)
  case atStart => exact ⟨0, none, 0, 0, Nat.zero_le _, rfl, rfl, Nat.le_refl _, Lib.hid (by simp; exact GSl.nil_), Lib.hid (by simp), Lib.hid (.inl rfl), Lib.hid (Below.refl _ _)⟩
  case round =>
    obtain ⟨j, Ar, rn, rc, hj, rfl, rfl, hrn, hG1, hrl, hloc, hB⟩ := hrel
    have c2 : wr.cell? ⟨R, 2, none⟩ = some (.slice A pn c) := (hB.out.cell (p := ⟨R, 2, none⟩) hRlt).trans C2.out
    have f2 := (H.out.s.blk.below hB.out hRlt).frozen 2
    by_cases hlj : j < pn
    · have hlj' : (j : Int) < (pn : Int) := by omega
      obtain ⟨g, off, p, hA, hg, hx, hcell⟩ := (H.out.s.gsl.rds.below hB.out).at_ (show j < P.length by rw [PN.out]; exact hlj)
      subst hA
      have hte := take_erase (k := k) hx
      obtain ⟨pe, pm, po, ph, pt⟩ := p
      have x0 : wr.cell? ⟨g, off + j * 5, none⟩ = some (.int .i64 pe) := hcell 0 _ rfl
      have x1 : wr.cell? ⟨g, off + j * 5 + 1, none⟩ = some (.int .i64 pm) := hcell 1 _ rfl
      have x2 : wr.cell? ⟨g, off + j * 5 + 2, none⟩ = some (.int .i64 po) := hcell 2 _ rfl
      have x3 : wr.cell? ⟨g, off + j * 5 + 3, none⟩ = some (.bool ph) := hcell 3 _ rfl
      have x4 : wr.cell? ⟨g, off + j * 5 + 4, none⟩ = some (.int .i64 pt) := hcell 4 _ rfl
      clear hcell hx f2
      by_cases hjk : j = k
      · subst hjk
        rw [if_pos rfl] at hte
        have HTE := Lib.hid hte
        have hne : ((j : Int) != (j : Int)) = false := by simp
        clear hte
        go_wp2
        go_roundw
        case rel => exact ⟨j + 1, Ar, rn, rc, by omega, by go_num, rfl, by omega, by rw [HTE.out]; exact hG1, by rw [HTE.out]; exact hrl, hloc, hB⟩
        case measure => simp [intOf]; omega
      · rw [if_neg hjk, ite_self] at hte
        have HTE := Lib.hid hte
        have hne : ((j : Int) != (k : Int)) = true := by rw [bne_iff_ne]; omega
        have ga := hG1.out.chg (Chg.alloc (fun _ _ => False) wr (.cells #[.int .i64 pe, .int .i64 pm, .int .i64 po, .bool ph, .int .i64 pt] 104)) encR_len fun _ _ _ h => h
        have GA := Lib.hid ga
        have Rn := Lib.hid (show RdS encR 5 (wr.alloc (.cells #[.int .i64 pe, .int .i64 pm, .int .i64 po, .bool ph, .int .i64 pt] 104)) (some ⟨wr.heap.size, 0, none⟩) [(pe, pm, po, ph, pt)] from RdS.new1 encR 5 wr 104 (pe, pm, po, ph, pt))
        clear hte ga
        go_wp2_with (
          at_builtin
          refine wpList_appendG rTy (by decide) encR_len encR_one rfl (.tmp 38) (.tmp 46) rfl Ar rc ((P.take j).eraseIdx k) (by rw [hrl.out]; rfl) GA.out (some ⟨wr.heap.size, 0, none⟩) 1 [(pe, pm, po, ph, pt)] rfl Rn.out (by rw [hrl.out]; simp only [maxLen, List.length_singleton]; omega) (by rw [hrl.out]; simp only [List.length_singleton]; omega) ?_
          intro A6 c6 w8 h8 k8 q8
          have hlen8 : ((P.take j).eraseIdx k ++ [(pe, pm, po, ph, pt)]).length = rn + 1 := by rw [List.length_append, hrl.out]; rfl
          rw [hlen8]
          have HL8 := Lib.hid hlen8
          have H8 := Lib.hid h8
          have L8 := Lib.hid (show A6 = none ∨ ∃ g, A6 = some ⟨g, 0, none⟩ ∧ w.heap.size ≤ g from by
            rcases q8 with ⟨e1, _⟩ | ⟨g2, e1, hg2⟩
            · rw [e1]; exact hloc.out
            · exact .inr ⟨g2, e1, by have := hB.out.size; simp at hg2; omega⟩)
          have B8 := Lib.hid ((hB.out.alloc hB.out.size (.cells #[.int .i64 pe, .int .i64 pm, .int .i64 po, .bool ph, .int .i64 pt] 104)).trans (k8.below (by have := hB.out.size; simp; omega) fun k2 i2 hk hf => by
            obtain ⟨a, ea, e⟩ := slFp_blk hf
            rcases hloc.out with h1 | ⟨g2, h1, hg2⟩
            · rw [h1] at ea; cases ea
            · rw [h1] at ea; cases ea
              have e3 : g2 = k2 := e
              omega))
          clear h8 k8 q8 hlen8
          )
        go_roundw
        case rel => exact ⟨j + 1, A6, rn + 1, c6, by omega, by go_num, rfl, by omega, by rw [HTE.out]; exact H8, by rw [HTE.out]; exact HL8, L8, B8⟩
        case measure => simp [intOf]; omega
    · obtain rfl : j = pn := by omega
      rw [List.take_of_length_le (by rw [PN.out]; exact Nat.le_refl _)] at hG1 hrl
      have herase := erase_uniq (H.out.sim.uniq HG.out hxn owner) HKI.out
      obtain ⟨Q, hQ⟩ : ∃ Q, Q = P.eraseIdx k := ⟨_, rfl⟩
      rw [← hQ] at hG1 hrl herase
      have hsim : Sim n (upd (upd L (x * 2) (rmP (L (x * 2)) owner)) (x * 2 + 1) (rmP (L (x * 2 + 1)) owner)) Q turns := by
        rw [herase]
        exact H.out.sim.rm hxn owner
      have hnR : ∀ g o, Ar = some ⟨g, o, none⟩ → g ≠ R := fun g o e => by
        rcases hloc.out with h1 | ⟨g2, h1, hg2⟩
        · rw [h1] at e; cases e
        · rw [h1] at e; cases e; omega
      have cR : Chg (fun k _ => k = R) wr (wr.setCell ⟨R, 2, none⟩ (.slice Ar rn rc)) := Chg.setCell (fun k _ => k = R) _ (show R = R from rfl) _
      have RQ : RefS base (wr.setCell ⟨R, 2, none⟩ (.slice Ar rn rc)) R n most Ar rc Q turns := by
        refine ⟨?_, hG1.out.chg cR encR_len fun g i hs e => ?_, ?_, H.out.s.hR⟩
        · have := (H.out.s.blk.below hB.out hRlt).set_ 2 (.slice Ar rn rc)
          rw [hrl.out]
          exact this
        · obtain ⟨o, e2, _⟩ := hs
          exact hnR g o e2 e
        · rcases hloc.out with h1 | ⟨g2, h1, hg2⟩
          · exact .inl h1
          · exact .inr ⟨g2, h1, by have := H.out.s.hR; omega⟩
      have CQ : Chg (fun k _ => RFp R A k) w (wr.setCell ⟨R, 2, none⟩ (.slice Ar rn rc)) := (Chg.of_below (fun k _ => RFp R A k) hB.out).trans cR fun k i _ e => .inl e
      have FQ : ∀ k, RFp R Ar k → RFp R A k ∨ w.heap.size ≤ k := fun k hk => by
        rcases hk with rfl | ⟨a, e, rfl⟩
        · exact .inl (.inl rfl)
        · rcases hloc.out with h1 | ⟨g2, h1, hg2⟩
          · rw [h1] at e; cases e
          · rw [h1] at e; cases e; exact .inr hg2
      have hmr : ∀ p ∈ rmP (L (x * 2 + 1)) owner, p.2 = 1 ∨ p.2 = 2 := fun p hp => (HG.out x hxn).mods p (List.mem_append_right _ ((List.mem_filter.1 hp).1))
      have hmh : ∀ p ∈ rmP (L (x * 2)) owner, p.2 = 1 ∨ p.2 = 2 := fun p hp => (HG.out x hxn).mods p (List.mem_append_left _ ((List.mem_filter.1 hp).1))
      have hsh : (∀ p ∈ rmP (L (x * 2)) owner, p.2 = 1) ∨ ∃ p, rmP (L (x * 2)) owner = [p] ∧ p.2 = 2 := by
        rcases (HG.out x hxn).sh with h1 | ⟨p, h1, h2⟩
        · exact .inl fun p hp => h1 p ((List.mem_filter.1 hp).1)
        · rw [h1]
          unfold rmP
          rw [List.filter_cons]
          split
          · exact .inr ⟨p, rfl, h2⟩
          · exact .inl (by simp)
      have htot : turns + ((rowSum n (upd (upd L (x * 2) (rmP (L (x * 2)) owner)) (x * 2 + 1) (rmP (L (x * 2 + 1)) owner)) : Nat) : Int) ≤ (i : Int) := by
        have t1 := H.out.tle
        have t2 := rowSum_upd L (rmP (L (x * 2)) owner) (rmP (L (x * 2 + 1)) owner) hxn
        have t3 : (rmP (L (x * 2 + 1)) owner).length ≤ (L (x * 2 + 1)).length := List.length_filter_le _ _
        omega
      have hQl : Q.length ≤ i := by
        have := H.out.len
        rw [hrl.out]
        rw [PN.out] at this
        omega
      obtain ⟨CL, hCL⟩ : ∃ CL, CL = comeL (rmP (L (x * 2)) owner) (rmP (L (x * 2 + 1)) owner) := ⟨_, rfl⟩
      rw [← hCL] at E2
      obtain ⟨cn, hcn⟩ : ∃ cn, cn = CL.2.2.length := ⟨_, rfl⟩
      have hcb : cn ≤ 3000000000000 := by
        have h1 := (comeL_len (rmP (L (x * 2 + 1)) owner) (rmP (L (x * 2)) owner)).2
        rw [← hCL, ← hcn] at h1
        have t2 := rowSum_upd L (rmP (L (x * 2)) owner) (rmP (L (x * 2 + 1)) owner) hxn
        have t1 := H.out.tle
        have t3 := row_sum (L := L) hxn
        have t4 : (rmP (L (x * 2 + 1)) owner).length ≤ (L (x * 2 + 1)).length := List.length_filter_le _ _
        have t5 := H.out.sim.t0
        omega
      have RQ := Lib.hid RQ
      have CQ := Lib.hid CQ
      have FQ := Lib.hid FQ
      have HSIM := Lib.hid hsim
      have HMR := Lib.hid hmr
      have HMH := Lib.hid hmh
      have HSH := Lib.hid hsh
      have HTOT := Lib.hid htot
      have HCL := Lib.hid hCL
      have HCN := Lib.hid hcn
      have HRL := hrl
      clear herase hQ hsim hnR cR hmr hmh hsh htot hCL hcn hrl hG1 hloc HKI
      go_wp2_with fail
      go_loopw [12] (fun t12 wr => ∃ (A2 : Option Addr) (c2 : Nat) (P2 : List RP) (tu : Int) (h r : List Pl) (Ag : Option Addr) (gn gc : Nat) (gi : List Int), t12 = .slice Ag gn gc ∧ Hid (RefS base wr R n most A2 c2 P2 tu) ∧ Hid (Sim n (upd (upd L (x * 2) h) (x * 2 + 1) r) P2 tu) ∧ Hid (∃ gr, comeL h r = (CL.1, CL.2.1, gr) ∧ gi ++ gr = CL.2.2) ∧ Hid (gi.length = gn) ∧ Hid ((∀ p ∈ h, p.2 = 1 ∨ p.2 = 2) ∧ (∀ p ∈ r, p.2 = 1 ∨ p.2 = 2) ∧ ((∀ p ∈ h, p.2 = 1) ∨ ∃ p, h = [p] ∧ p.2 = 2)) ∧ Hid (P2.length = rn) ∧
        Hid (tu + ((rowSum n (upd (upd L (x * 2) h) (x * 2 + 1) r) : Nat) : Int) ≤ (i : Int)) ∧ Hid (KO wr Ag gc gi ∧ ∀ ad, Ag = some ad → w.heap.size ≤ ad.block) ∧ Hid (Chg (fun k _ => RFp R A k) w wr) ∧ Hid (∀ k, RFp R A2 k → RFp R A k ∨ w.heap.size ≤ k)) (fun t12 _ => cn - slLen t12)
      case atStart => exact ⟨Ar, rc, Q, turns, _, _, none, 0, 0, [], rfl, RQ, HSIM, Lib.hid ⟨_, by rw [← HCL.out], rfl⟩, Lib.hid rfl, Lib.hid ⟨HMH.out, HMR.out, HSH.out⟩, HRL, HTOT, Lib.hid ⟨⟨GSl.nil_, .inl rfl⟩, fun _ h => by cases h⟩, CQ, FQ⟩
      case round =>
        clear RQ HSIM HMR HMH HSH HTOT HCL CQ FQ c2 f2 HRL hQl
        obtain ⟨A2, c2, P2, tu, h, r, Ag, gn, gc, gi, rfl, hR2, hS2, hco, hgn, hmod, hPl, htot, hK, hC, hF⟩ := hrel
        have cc2 : wr.cell? ⟨R, 2, none⟩ = some (.slice A2 rn c2) := by rw [← hPl.out]; exact hR2.out.blk.cell 2
        have gq := rfirst_any R rn c2 A2 P2 (x : Int) wr hPl.out (by omega) cc2 hR2.out.gsl.rds
        cases hr : r with
        | nil =>
          subst hr
          rw [hS2.out.first_none hxn (by rw [upd2_r])] at gq
          have GQ := Lib.hid gq
          obtain ⟨gr, hg1, hg2⟩ := hco.out
          have hg1' : (h, ([] : List Pl), ([] : List Int)) = (CL.1, CL.2.1, gr) := hg1
          have hg3 : gr = [] ∧ CL.1 = h ∧ CL.2.1 = [] := by
            injection hg1' with e1 e2
            injection e2 with e2 e3
            exact ⟨e3.symm, e1.symm, e2.symm⟩
          obtain ⟨rfl, e1, e2⟩ := hg3
          rw [List.append_nil] at hg2
          have HE := Lib.hid (show gi = CL.2.2 ∧ CL.1 = h ∧ CL.2.1 = [] from ⟨hg2, e1, e2⟩)
          clear gq hg1 hg1' hg2 e1 e2 hco
          go_wp2_with fail
          refine GQ.out.mono ?_
          rintro e w' ⟨rfl, rfl⟩
          go_wp2
          go_ret2
          refine ⟨Ag, gc, by rw [E2.out.1, E2.out.2.2, ← HE.out.1, hgn.out]; rfl, by rw [E2.out.2.2, ← HE.out.1]; exact hK.out.1, A2, c2, P2, tu, ⟨hR2.out, ?_, by rw [hPl.out]; have := H.out.len; rw [PN.out] at this; omega, ?_⟩, hC.out, hF.out⟩
          · refine hS2.out.congr fun j hj => ?_
            rw [E2.out.2.1 j hj, HE.out.2.1, HE.out.2.2]
          · rw [rowSum_congr (fun j hj => E2.out.2.1 j hj), HE.out.2.1, HE.out.2.2]
            exact htot.out
        | cons a r2 =>
          subst hr
          obtain ⟨f, p, q, hf1, hf2, hf3, hf4, hf5, hf6⟩ := hS2.out.first_some hxn (a := a) (r := r2) (by rw [upd2_r])
          rw [hf1] at gq
          have GQ := Lib.hid gq
          obtain ⟨g, off, p', hA2, hg, hx2, hcell⟩ := hR2.out.gsl.rds.at_ (show f < P2.length from (List.getElem?_eq_some_iff.1 hf3).1)
          obtain rfl : p' = p := Option.some.inj (hx2.symm.trans hf3)
          subst hA2
          obtain rfl : off = 0 := by
            rcases hR2.out.loc with h1 | ⟨g2, h1, _⟩
            · cases h1
            · cases h1; rfl
          have hfl : f < rn := by rw [← hPl.out]; exact (List.getElem?_eq_some_iff.1 hf3).1
          have hfl' : (f : Int) < (rn : Int) := by omega
          have ham : a.2 = 1 ∨ a.2 = 2 := hmod.out.2.1 a (by simp)
          have hpa : p'.2.1 = a.2 := by rw [← hf5]; rfl
          have hpo : p'.2.2.1 = a.1 := by rw [← hf5]; rfl
          have x1 : wr.cell? ⟨g, f * 5 + 1, none⟩ = some (.int .i64 a.2) := by
            rw [← hpa]
            have := hcell 1 _ rfl
            simpa using this
          have x2 : wr.cell? ⟨g, f * 5 + 2, none⟩ = some (.int .i64 a.1) := by
            rw [← hpo]
            have := hcell 2 _ rfl
            simpa using this
          have hgoes := hS2.out.goes2 hxn (mode := a.2) (by rw [upd2_h]; exact hmod.out.1) (by rw [upd2_h]; exact hmod.out.2.2) ham
          rw [upd2_h] at hgoes
          have gg := rgoes_any R rn c2 (some ⟨g, 0, none⟩) P2 (x : Int) a.2 wr hPl.out (by omega) cc2 hR2.out.blk.lt hR2.out.gsl.rds
          rw [hgoes] at gg
          have GG := Lib.hid gg
          have HF2 := Lib.hid hf2
          have HF3 := Lib.hid hf3
          have HF4 := Lib.hid hf4
          have HF6 := Lib.hid hf6
          have HPA := Lib.hid hpa
          have HPO := Lib.hid hpo
          have X2 := Lib.hid x2
          have HHAM := Lib.hid ham
          clear gq gg hgoes hf1 hf2 hf3 hf4 hf6 hcell hx2 hpa hpo x2 ham
          go_wp2_with fail
          refine GQ.out.mono ?_
          rintro e w' ⟨rfl, rfl⟩
          go_wp2_with fail
          refine GG.out.mono ?_
          rintro e w5 ⟨rfl, hB5⟩
          clear GQ GG cc2
          have R5 := Lib.hid (hR2.out.below hB5)
          have C5 := Lib.hid (hC.out.trans (Chg.of_below (fun _ _ => False) hB5) fun _ _ _ h => h.elim)
          have K5 := Lib.hid (hK.out.1.below hB5)
          cases hgb : goesL h a.2 with
          | false =>
            obtain ⟨gr, hg1, hg2⟩ := hco.out
            rw [comeL, if_neg (by rw [hgb]; decide)] at hg1
            have hg3 : gr = [] ∧ CL.1 = h ∧ CL.2.1 = a :: r2 := by
              injection hg1 with e1 e2
              injection e2 with e2 e3
              exact ⟨e3.symm, e1.symm, e2.symm⟩
            obtain ⟨rfl, e1, e2⟩ := hg3
            rw [List.append_nil] at hg2
            have HE := Lib.hid (show gi = CL.2.2 ∧ CL.1 = h ∧ CL.2.1 = a :: r2 from ⟨hg2, e1, e2⟩)
            clear hg1 hg2 e1 e2 hco x1 hB5
            go_wp2
            go_ret2
            refine ⟨Ag, gc, by rw [E2.out.1, E2.out.2.2, ← HE.out.1, hgn.out]; rfl, by rw [E2.out.2.2, ← HE.out.1]; exact K5.out, some ⟨g, 0, none⟩, c2, P2, tu, ⟨R5.out, ?_, by rw [hPl.out]; have := H.out.len; rw [PN.out] at this; omega, ?_⟩, C5.out, hF.out⟩
            · refine hS2.out.congr fun j hj => ?_
              rw [E2.out.2.1 j hj, HE.out.2.1, HE.out.2.2]
            · rw [rowSum_congr (fun j hj => E2.out.2.1 j hj), HE.out.2.1, HE.out.2.2]
              exact htot.out
          | true =>
            obtain ⟨gr, hg1, hg2⟩ := hco.out
            rw [comeL, if_pos hgb] at hg1
            have HCO := Lib.hid (show ∃ gr2, gr = a.1 :: gr2 ∧ comeL (h ++ [a]) r2 = (CL.1, CL.2.1, gr2) from by
              refine ⟨(comeL (h ++ [a]) r2).2.2, ?_, ?_⟩
              · injection hg1 with _ e
                injection e with _ e
                exact e.symm
              · injection hg1 with e1 e
                injection e with e2 _
                rw [← e1, ← e2])
            have hglt : gn < cn := by
              obtain ⟨gr2, e1, _⟩ := HCO.out
              have h1 := congrArg List.length hg2
              rw [List.length_append, hgn.out, e1, List.length_cons] at h1
              rw [HCN.out]
              omega
            have HG2 := Lib.hid hg2
            have hRg : R ≠ g := by
              have := R5.out.gsl
              rcases this with ⟨h2, _⟩ | ⟨g2, o2, cs2, h2, _, _, h3, _⟩
              · cases h2
              · cases h2; exact (blk_type_ne h3 R5.out.blk (by decide)).symm
            have hgs : g < w5.heap.size := (R5.out.lt (.inr ⟨_, rfl, rfl⟩)).2
            have c3 : w5.cell? ⟨R, 3, none⟩ = some (.int .i64 tu) := R5.out.blk.cell 3
            have c2' : w5.cell? ⟨R, 2, none⟩ = some (.slice (some ⟨g, 0, none⟩) rn c2) := by rw [← hPl.out]; exact R5.out.blk.cell 2
            have f3 := R5.out.blk.frozen 3
            obtain ⟨g', o', e', hg', hcell⟩ := R5.out.gsl.rds f p' HF3.out
            cases e'
            have y3 : w5.cell? ⟨g, f * 5 + 3, none⟩ = some (.bool p'.2.2.2.1) := by have := hcell 3 _ rfl; simpa using this
            have y4 : w5.cell? ⟨g, f * 5 + 4, none⟩ = some (.int .i64 p'.2.2.2.2) := by have := hcell 4 _ rfl; simpa using this
            have y2 : w5.cell? ⟨g, f * 5 + 2, none⟩ = some (.int .i64 a.1) := by rw [← HPO.out]; have := hcell 2 _ rfl; simpa using this
            have yf3 : w5.frozen? ⟨g, f * 5 + 3, none⟩ = false := by
              rcases R5.out.gsl with ⟨h2, _⟩ | ⟨g2, o2, cs2, h2, _, _, h3, _⟩
              · cases h2
              · cases h2; simp [World.frozen?, h3]
            have yf4 : w5.frozen? ⟨g, f * 5 + 4, none⟩ = false := by
              rcases R5.out.gsl with ⟨h2, _⟩ | ⟨g2, o2, cs2, h2, _, _, h3, _⟩
              · cases h2
              · cases h2; simp [World.frozen?, h3]
            have htu : 0 ≤ tu ∧ tu + 1 ≤ 3000000000001 := by have := htot.out; have := hS2.out.t0; omega
            have Y2 := Lib.hid y2
            clear hcell hg1 hg2 hco x1 hB5 hg' y2
            obtain ⟨wt, hwt⟩ : ∃ wt, wt = (w5.setCell ⟨R, 3, none⟩ (.int .i64 (tu + 1))).setCell ⟨g, f * 5 + 3, none⟩ (.bool true) := ⟨_, rfl⟩
            have ct2 : wt.drew.cell? ⟨R, 2, none⟩ = some (.slice (some ⟨g, 0, none⟩) rn c2) := by
              rw [hwt]
              have := ((R5.out.turn (tu + 1)).blk.far (p := ⟨g, f * 5 + 3, none⟩) hRg (.bool true)).cell 2
              rw [hPl.out] at this
              exact this
            have ct3 : wt.drew.cell? ⟨R, 3, none⟩ = some (.int .i64 (tu + 1)) := by
              rw [hwt]
              exact ((R5.out.turn (tu + 1)).blk.far (p := ⟨g, f * 5 + 3, none⟩) hRg (.bool true)).cell 3
            have RC := Lib.hid ((R5.out.turn (tu + 1)).come HF3.out (tu + 1))
            have SC := Lib.hid (hS2.out.come hxn HF2.out HF3.out HF4.out)
            have WE : wt.setCell ⟨g, f * 5 + 4, none⟩ (.int .i64 (tu + 1)) = ((w5.setCell ⟨R, 3, none⟩ (.int .i64 (tu + 1))).setCell ⟨g, f * 5 + 3, none⟩ (.bool true)).setCell ⟨g, f * 5 + 4, none⟩ (.int .i64 (tu + 1)) := by rw [hwt]
            have ct2b : (wt.drew.setCell ⟨g, f * 5 + 4, none⟩ (.int .i64 (tu + 1))).cell? ⟨R, 2, none⟩ = some (.slice (some ⟨g, 0, none⟩) rn c2) := by
              show (wt.setCell ⟨g, f * 5 + 4, none⟩ (.int .i64 (tu + 1))).cell? _ = _
              rw [WE, ← hPl.out, ← (show (P2.set f (p'.1, p'.2.1, p'.2.2.1, true, tu + 1)).length = P2.length from List.length_set)]
              exact RC.out.blk.cell 2
            have ct3b : (wt.drew.setCell ⟨g, f * 5 + 4, none⟩ (.int .i64 (tu + 1))).cell? ⟨R, 3, none⟩ = some (.int .i64 (tu + 1)) := by
              show (wt.setCell ⟨g, f * 5 + 4, none⟩ (.int .i64 (tu + 1))).cell? _ = _
              rw [WE]
              exact RC.out.blk.cell 3
            have yt4 : wt.cell? ⟨g, f * 5 + 4, none⟩ = some (.int .i64 p'.2.2.2.2) := by
              rw [hwt]
              go_simp
            have ytf : wt.frozen? ⟨g, f * 5 + 4, none⟩ = false := by
              rw [hwt]
              go_simp
            have HWT := Lib.hid hwt
            have HWE := Lib.hid WE
            go_upto_region 23 with fail
            rw [← hwt]
            clear hwt WE c3 c2' f3 y3 y4 yf3 yf4
            refine wp_region_noPanic ?_
            refine wp_region_held_drew (S := fun w' => w'.cell? ⟨R, 2, none⟩ = some (.slice (some ⟨g, 0, none⟩) rn c2) ∧ w'.cell? ⟨R, 3, none⟩ = some (.int .i64 (tu + 1))) (by kernel_rfl) (⟨ct2, ct3⟩) (fun hHeld => ?_)
            refine take_on (i := 0) (some 86) (v := ?vr1) rfl rfl (by kernel_rfl) (by kernel_rfl) (by kernel_rfl) (fun _ _ _ h => h) (by rfl) ?hyr1 (by with_reducible exact hHeld) ?restr1
            case hyr1 => (intro wS hSw; (try dsimp only at hSw); go_simp; try with_reducible rfl)
            try simp only [Act.put, List.setIfInBounds_toArray, List.set_cons_zero, List.set_cons_succ]
            refine take_on (i := 1) (some 87) (v := ?vr2) rfl rfl (by kernel_rfl) (by kernel_rfl) (by kernel_rfl) (fun _ _ _ h => h) (by rfl) ?hyr2 (by with_reducible exact hHeld) ?restr2
            case hyr2 => (intro wS hSw; (try dsimp only at hSw); go_simp; try with_reducible rfl)
            try simp only [Act.put, List.setIfInBounds_toArray, List.set_cons_zero, List.set_cons_succ]
            refine take_on (i := 2) (some 88) (v := ?vr3) rfl rfl (by kernel_rfl) (by kernel_rfl) (by kernel_rfl) (fun _ _ _ h => h) (by rfl) ?hyr3 (by with_reducible exact hHeld) ?restr3
            case hyr3 => (intro wS hSw; (try dsimp only at hSw); go_simp; try with_reducible rfl)
            try simp only [Act.put, List.setIfInBounds_toArray, List.set_cons_zero, List.set_cons_succ]
            refine take_on (i := 3) (some 89) (v := ?vr4) rfl rfl (by kernel_rfl) (by kernel_rfl) (by kernel_rfl) (fun _ _ _ h => h) (by rfl) ?hyr4 (by with_reducible exact hHeld) ?restr4
            case hyr4 => (intro wS hSw; (try dsimp only at hSw); go_simp; try with_reducible rfl)
            try simp only [Act.put, List.setIfInBounds_toArray, List.set_cons_zero, List.set_cons_succ]
            refine take_on (i := 4) (some 90) (v := ?vr5) rfl rfl (by kernel_rfl) (by kernel_rfl) (by kernel_rfl) (fun _ _ _ h => h) (by rfl) ?hyr5 (by with_reducible exact hHeld) ?restr5
            case hyr5 => (intro wS hSw; (try dsimp only at hSw); go_simp; try with_reducible rfl)
            try simp only [Act.put, List.setIfInBounds_toArray, List.set_cons_zero, List.set_cons_succ]
            refine take_on (i := 5) (some 91) (v := ?vr6) rfl rfl (by kernel_rfl) (by kernel_rfl) (by kernel_rfl) (fun _ _ _ h => h) (by rfl) ?hyr6 (by with_reducible exact hHeld) ?restr6
            case hyr6 => (intro wS hSw; (try dsimp only at hSw); go_simp; try with_reducible rfl)
            try simp only [Act.put, List.setIfInBounds_toArray, List.set_cons_zero, List.set_cons_succ]
            refine take_on (i := 6) (some 92) (v := ?vr7) rfl rfl (by kernel_rfl) (by kernel_rfl) (by kernel_rfl) (fun _ _ _ h => h) (by rfl) ?hyr7 (by with_reducible exact hHeld) ?restr7
            case hyr7 => (intro wS hSw; (try dsimp only at hSw); go_simp; try with_reducible rfl)
            try simp only [Act.put, List.setIfInBounds_toArray, List.set_cons_zero, List.set_cons_succ]
            refine take_on (i := 7) (some 93) (v := ?vr8) rfl rfl (by kernel_rfl) (by kernel_rfl) (by kernel_rfl) (fun _ _ _ h => h) (by rfl) ?hyr8 (by with_reducible exact hHeld) ?restr8
            case hyr8 => (intro wS hSw; (try dsimp only at hSw); go_simp; try with_reducible rfl)
            try simp only [Act.put, List.setIfInBounds_toArray, List.set_cons_zero, List.set_cons_succ]
            refine take_on (i := 8) (some 94) (v := ?vr9) rfl rfl (by kernel_rfl) (by kernel_rfl) (by kernel_rfl) (fun _ _ _ h => h) (by rfl) ?hyr9 (by with_reducible exact hHeld) ?restr9
            case hyr9 => (intro wS hSw; (try dsimp only at hSw); go_simp; try with_reducible rfl)
            try simp only [Act.put, List.setIfInBounds_toArray, List.set_cons_zero, List.set_cons_succ]
            refine take_on (i := 9) (some 95) (v := ?vr10) rfl rfl (by kernel_rfl) (by kernel_rfl) (by kernel_rfl) (fun _ _ _ h => h) (by rfl) ?hyr10 (by with_reducible exact hHeld) ?restr10
            case hyr10 => (intro wS hSw; (try dsimp only at hSw); go_simp; try with_reducible rfl)
            try simp only [Act.put, List.setIfInBounds_toArray, List.set_cons_zero, List.set_cons_succ]
            refine take_on (i := 10) (some 96) (v := ?vr11) rfl rfl (by kernel_rfl) (by kernel_rfl) (by kernel_rfl) (fun _ _ _ h => h) (by rfl) ?hyr11 (by with_reducible exact hHeld) ?restr11
            case hyr11 => (intro wS hSw; (try dsimp only at hSw); go_simp; try with_reducible rfl)
            try simp only [Act.put, List.setIfInBounds_toArray, List.set_cons_zero, List.set_cons_succ]
            refine wpAnyH_ready (rs := [11]) (by kernel_rfl) (by simp) ?_
            refine AllReadyH.cons rfl (fun K hK => ?_) AllReadyH.nil
            go_simp
            refine hK.out _ _ (⟨ct2b, ct3b⟩) (fun hHeld => ?_)
            clear hK K
            try simp only [Act.put, List.setIfInBounds_toArray, List.set_cons_zero, List.set_cons_succ]
            refine wpAnyH_done (by kernel_rfl) ?_ _
            refine NoPanic.normal ?_
            obtain ⟨wu, hwu⟩ : ∃ wu, wu = (wt.setCell ⟨g, f * 5 + 4, none⟩ (.int .i64 (tu + 1))).drew := ⟨_, rfl⟩
            have eu : wu = (((w5.setCell ⟨R, 3, none⟩ (.int .i64 (tu + 1))).setCell ⟨g, f * 5 + 3, none⟩ (.bool true)).setCell ⟨g, f * 5 + 4, none⟩ (.int .i64 (tu + 1))).drew := by
              rw [hwu, HWE.out]
            have RU := Lib.hid (show RefS base wu R n most (some ⟨g, 0, none⟩) c2 (P2.set f (p'.1, p'.2.1, p'.2.2.1, true, tu + 1)) (tu + 1) from by rw [eu]; exact RC.out.below (Below.refl _ _).drew)
            have CU5 : Chg (fun k _ => k = R ∨ k = g) w5 wu := by
              rw [eu]
              exact (((Chg.setCell (fun k _ => k = R ∨ k = g) _ (show R = R ∨ R = g from .inl rfl) _).trans (Chg.setCell (fun k _ => k = R ∨ k = g) _ (show g = R ∨ g = g from .inr rfl) _) fun _ _ _ h => h).trans (Chg.setCell (fun k _ => k = R ∨ k = g) _ (show g = R ∨ g = g from .inr rfl) _) fun _ _ _ h => h).drew
            have KU := Lib.hid (K5.out.chg CU5 fun ad e _ hk => by
              obtain ⟨cs, hb⟩ := K5.out.blk e
              rcases hk with hk | hk
              · exact blk_type_ne hb R5.out.blk (by decide) hk
              · rcases R5.out.gsl with ⟨h2, _⟩ | ⟨g2, o2, cs2, h2, _, _, h3, _⟩
                · cases h2
                · cases h2; exact blk_type_ne hb h3 (by decide) hk)
            have CU := Lib.hid (C5.out.trans CU5 fun k _ hk e => by
              rcases e with e | e
              · exact .inl e
              · rcases hF.out k (.inr ⟨_, rfl, e.symm⟩) with h1 | h1
                · exact h1
                · omega)
            have v2 : wu.cell? ⟨R, 2, none⟩ = some (.slice (some ⟨g, 0, none⟩) rn c2) := by rw [hwu]; exact ct2b
            have vo : wu.cell? ⟨g, f * 5 + 2, none⟩ = some (.int .i64 a.1) := by
              obtain ⟨g', o', e', hg', hcell⟩ := RU.out.gsl.rds f (p'.1, p'.2.1, p'.2.2.1, true, tu + 1) (List.getElem?_set_self (by rw [hPl.out]; exact hfl))
              cases e'
              rw [← HPO.out]
              have := hcell 2 _ rfl
              simpa using this
            have KA := Lib.hid (KU.out.1.chg (Chg.alloc (fun _ _ => False) wu (.cells #[.int .i64 a.1] 3)) enc1_len fun _ _ _ h => h)
            have Rn := Lib.hid (show RdS enc1 1 (wu.alloc (.cells #[.int .i64 a.1] 3)) (some ⟨wu.heap.size, 0, none⟩) [a.1] from RdS.new1 enc1 1 wu 3 a.1)
            have hKb := Lib.hid hK.out.2
            rw [← hwu]
            clear hwu eu CU5 ct2 ct3 ct2b ct3b yt4 ytf R5 C5 K5 hK HWT HWE RC
            go_wp2_with (
              at_builtin
              refine wpList_appendG intTy (by decide) enc1_len enc1_one rfl (.tmp 97) (.tmp 106) rfl Ag gc gi (by rw [hgn.out]; rfl) KA.out (some ⟨wu.heap.size, 0, none⟩) 1 [a.1] rfl Rn.out (by rw [hgn.out]; simp only [maxLen, List.length_singleton]; omega) (by rw [hgn.out]; simp only [List.length_singleton]; omega) ?_
              intro A6 c6 w8 h8 k8 q8
              have hlen8 : (gi ++ [a.1]).length = gn + 1 := by rw [List.length_append, hgn.out]; rfl
              rw [hlen8]
              have HL8 := Lib.hid hlen8
              have kk : Chg (slFp 1 Ag gi.length gc) wu w8 := (Chg.alloc (slFp 1 Ag gi.length gc) wu (.cells #[.int .i64 a.1] 3)).trans k8 fun _ _ _ h => h
              have R8 := Lib.hid (RU.out.keep kk fun k hk i hf => by
                obtain ⟨ad, ea, e⟩ := slFp_blk hf
                obtain ⟨cs, hb⟩ := KU.out.blk ea
                obtain ⟨_, t2, cs2, hb2, hty⟩ := RU.out.typ hk
                rcases hty with rfl | rfl
                · exact blk_type_ne hb hb2 (by decide) e
                · exact blk_type_ne hb hb2 (by decide) e)
              have K8 := Lib.hid (show KO w8 A6 c6 (gi ++ [a.1]) ∧ ∀ ad, A6 = some ad → w.heap.size ≤ ad.block from ⟨⟨h8, by
                rcases q8 with ⟨e1, _⟩ | ⟨g2, e1, _⟩
                · rw [e1]; exact KU.out.2
                · exact .inr ⟨g2, e1⟩⟩, fun ad e => by
                rcases q8 with ⟨e1, _⟩ | ⟨g2, e1, hg2⟩
                · rw [e1] at e; exact hKb.out ad e
                · rw [e1] at e; cases e
                  have := CU.out.size
                  simp at hg2
                  show w.heap.size ≤ g2
                  omega⟩)
              have C8 := Lib.hid (CU.out.trans kk fun k _ hk hf => by
                obtain ⟨ad, ea, e⟩ := slFp_blk hf
                have := hKb.out ad ea
                omega)
              clear h8 k8 q8 hlen8 kk
              )
            go_roundw
            case rel => exact ⟨some ⟨g, 0, none⟩, c2, _, tu + 1, h ++ [a], r2, A6, gn + 1, c6, gi ++ [a.1], rfl, R8, Lib.hid (by
                have := SC.out
                rw [upd2_h, HF6.out, hf5] at this
                exact this.congr fun j hj => by
                  by_cases e1 : j = x * 2
                  · subst e1; rw [upd2_h, upd2_h]
                  · by_cases e2 : j = x * 2 + 1
                    · subst e2; rw [upd2_r, upd2_r]
                    · rw [upd2_other _ _ _ _ e1 e2, upd2_other _ _ _ _ e1 e2, upd2_other _ _ _ _ e1 e2]), Lib.hid (by
                obtain ⟨gr2, e1, e2⟩ := HCO.out
                exact ⟨gr2, e2, by rw [List.append_assoc, ← HG2.out, e1]; rfl⟩), HL8, Lib.hid ⟨fun p hp => by
                rcases List.mem_append.1 hp with h1 | h1
                · exact hmod.out.1 p h1
                · rw [List.mem_singleton] at h1; rw [h1]; exact HHAM.out, fun p hp => hmod.out.2.1 p (List.mem_cons_of_mem _ hp), sh_add hmod.out.2.2 HHAM.out hgb⟩, Lib.hid (by rw [List.length_set]; exact hPl.out), Lib.hid (by
                have t1 := htot.out
                have t2 := rowSum_upd L h (a :: r2) hxn
                have t3 := rowSum_upd L (h ++ [a]) r2 hxn
                rw [List.length_cons] at t2
                omega), K8, C8, hF⟩
            case measure => simp [slLen]; omega
end Go.Proofs.Ytkjbjfjgnponfaa
