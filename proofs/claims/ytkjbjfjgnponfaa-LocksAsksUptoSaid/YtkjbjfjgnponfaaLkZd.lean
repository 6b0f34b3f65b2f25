/- The document's table of locks: Holders, by contract. -/
import Derived.Test.YtkjbjfjgnponfaaLkZc
namespace Go.Proofs.Ytkjbjfjgnponfaa
open Go.RowKit
set_option linter.unusedSimpArgs false
set_option linter.unusedVariables false
def SelAt (l : List RP) (la : Int) (j : Nat) (kk : Int) : Prop := (kk = -1 ∧ ∀ i p, i < j → l[i]? = some p → p.2.2.2.2 ≤ la) ∨ ∃ (i : Nat) (p : RP), kk = (i : Int) ∧ i < j ∧ l[i]? = some p ∧ la < p.2.2.2.2 ∧ ∀ i' p', i' < j → l[i']? = some p' → la < p'.2.2.2.2 → p.2.2.2.2 ≤ p'.2.2.2.2
theorem sel_skip {l : List RP} {la : Int} {j : Nat} {kk : Int} {p : RP} (h : SelAt l la j kk) (hp : l[j]? = some p) (hle : p.2.2.2.2 ≤ la) : SelAt l la (j + 1) kk := by
  rcases h with ⟨h1, h2⟩ | ⟨i, q, h1, h2, h3, h4, h5⟩
  · refine .inl ⟨h1, fun i q hi hq => ?_⟩
    by_cases e : i = j
    · subst e; rw [hp] at hq; cases hq; exact hle
    · exact h2 i q (by omega) hq
  · refine .inr ⟨i, q, h1, by omega, h3, h4, fun i' p' hi hq hl => ?_⟩
    by_cases e : i' = j
    · subst e; rw [hp] at hq; cases hq; omega
    · exact h5 i' p' (by omega) hq hl
theorem sel_new {l : List RP} {la : Int} {j : Nat} {p : RP} (h : SelAt l la j (-1)) (hp : l[j]? = some p) (hlt : la < p.2.2.2.2) : SelAt l la (j + 1) (j : Int) := by
  rcases h with ⟨_, h2⟩ | ⟨i, q, h1, _⟩
  · refine .inr ⟨j, p, rfl, by omega, hp, hlt, fun i' p' hi hq hl => ?_⟩
    by_cases e : i' = j
    · subst e; rw [hp] at hq; cases hq; exact Int.le_refl _
    · have := h2 i' p' (by omega) hq; omega
  · omega
theorem sel_less {l : List RP} {la : Int} {i j : Nat} {p q : RP} (h : SelAt l la j (i : Int)) (hq : l[i]? = some q) (hp : l[j]? = some p) (hlt : la < p.2.2.2.2) (hpq : p.2.2.2.2 < q.2.2.2.2) : SelAt l la (j + 1) (j : Int) := by
  rcases h with ⟨h1, _⟩ | ⟨i2, q2, h1, h2, h3, h4, h5⟩
  · omega
  · obtain rfl : i = i2 := by omega
    rw [hq] at h3
    cases h3
    refine .inr ⟨j, p, rfl, by omega, hp, hlt, fun i' p' hi hq' hl => ?_⟩
    by_cases e : i' = j
    · subst e; rw [hp] at hq'; cases hq'; exact Int.le_refl _
    · have := h5 i' p' (by omega) hq' hl; omega
theorem sel_keep {l : List RP} {la : Int} {i j : Nat} {p q : RP} (h : SelAt l la j (i : Int)) (hq : l[i]? = some q) (hp : l[j]? = some p) (hpq : ¬ p.2.2.2.2 < q.2.2.2.2) : SelAt l la (j + 1) (i : Int) := by
  rcases h with ⟨h1, _⟩ | ⟨i2, q2, h1, h2, h3, h4, h5⟩
  · omega
  · obtain rfl : i = i2 := by omega
    rw [hq] at h3
    cases h3
    refine .inr ⟨i, q, rfl, by omega, hq, h4, fun i' p' hi hq' hl => ?_⟩
    by_cases e : i' = j
    · subst e; rw [hp] at hq'; cases hq'; omega
    · exact h5 i' p' (by omega) hq' hl
def lastT (H : List RP) : Nat → Int
  | 0 => 0
  | k + 1 => ((H[k]?).map (·.2.2.2.2)).getD 0
def lastM (H : List RP) : Nat → Int
  | 0 => 0
  | k + 1 => ((H[k]?).map (·.2.1)).getD 0
theorem lastT_s (H : List RP) (k : Nat) : lastT H (k + 1) = ((H[k]?).map (·.2.2.2.2)).getD 0 := rfl
theorem lastM_s (H : List RP) (k : Nat) : lastM H (k + 1) = ((H[k]?).map (·.2.1)).getD 0 := rfl
theorem mode_all : ∀ (H : List RP), ((∀ p ∈ H.map plR, p.2 = 1) ∨ ∃ p, H.map plR = [p] ∧ p.2 = 2) → lastM H H.length = modeOf (H.map plR) 0
  | [], _ => rfl
  | a :: t, hs => by
    rw [List.length_cons, lastM_s, List.getElem?_eq_getElem (show t.length < (a :: t).length by simp)]
    show ((a :: t)[t.length]).2.1 = a.2.1
    rcases hs with h1 | ⟨p, h1, _⟩
    · have e1 : a.2.1 = 1 := h1 (plR a) (by simp)
      have e2 : ((a :: t)[t.length]).2.1 = 1 := h1 (plR ((a :: t)[t.length])) (List.mem_map.2 ⟨_, List.getElem_mem _, rfl⟩)
      rw [e1, e2]
    · have hlen := congrArg List.length h1
      rw [List.length_map, List.length_cons] at hlen
      have : t = [] := List.eq_nil_of_length_eq_zero (by simpa using hlen)
      subst this
      rfl
theorem sel_end {l H : List RP} {m : Nat} {kk : Int} {hm : RP} (hperm : H.Perm l) (hpw : H.Pairwise fun p q => p.2.2.2.2 < q.2.2.2.2) (hpos : ∀ p ∈ H, 1 ≤ p.2.2.2.2) (hH : H[m]? = some hm) (h : SelAt l (lastT H m) l.length kk) : ∃ i : Nat, kk = (i : Int) ∧ i < l.length ∧ l[i]? = some hm := by
  rw [List.pairwise_iff_getElem] at hpw
  obtain ⟨hml, hme⟩ := List.getElem?_eq_some_iff.1 hH
  have hlast : lastT H m < hm.2.2.2.2 := by
    cases m with
    | zero => have := hpos hm (List.mem_of_getElem? hH); show (0 : Int) < _; omega
    | succ k =>
      rw [lastT_s, List.getElem?_eq_getElem (show k < H.length by omega)]
      have := hpw k (k + 1) (by omega) hml (by omega)
      rw [hme] at this
      exact this
  obtain ⟨i0, hi0, he0⟩ := List.getElem_of_mem (hperm.subset (List.mem_of_getElem? hH))
  have hl0 : l[i0]? = some hm := by rw [List.getElem?_eq_getElem hi0, he0]
  rcases h with ⟨_, h2⟩ | ⟨i, p, h1, h2, h3, h4, h5⟩
  · have := h2 i0 hm hi0 hl0
    omega
  · have hle := h5 i0 hm hi0 hl0 hlast
    obtain ⟨i1, hi1, he1⟩ := List.getElem_of_mem (hperm.symm.subset (List.mem_of_getElem? h3))
    have : i1 = m := by
      rcases Nat.lt_trichotomy i1 m with hlt | heq | hgt
      · exfalso
        cases m with
        | zero => omega
        | succ k =>
          rw [lastT_s, List.getElem?_eq_getElem (show k < H.length by omega)] at h4
          have h4' : H[k].2.2.2.2 < p.2.2.2.2 := h4
          by_cases e : i1 = k
          · subst e; rw [he1] at h4'; omega
          · have := hpw i1 k hi1 (by omega) (by omega)
            rw [he1] at this
            omega
      · exact heq
      · exfalso
        have := hpw m i1 hml hi1 hgt
        rw [he1, hme] at this
        omega
    subst this
    rw [he1] at hme
    subst hme
    exact ⟨i, h1, h2, h3⟩
set_option maxRecDepth 20000 in
set_option maxHeartbeats 16000000 in
theorem rholders_any (base R n i c : Nat) (most : Int) (A : Option Addr) (P : List RP) (turns : Int) (L : Nat → List Pl) (ex : Int) (w : World) (h : RS base w R n i most A c P turns L) (hG : Good n L) (hi : i ≤ 3000000000000) :
    Calls Try.prog 46 #[.pointer (some ⟨R, 0, none⟩), .int .i64 ex] w fun e w' => ∃ Ag gc, e = .returned (.tuple #[.slice Ag (listT n L ex 0).1.length gc, .int .i64 (listT n L ex 0).2.1, .int .i64 (listT n L ex 0).2.2]) ∧ Rd encI w' Ag (listT n L ex 0).1 ∧ Below w.heap.size w w' := by
  have H0 := Lib.hid h
  have HG := Lib.hid hG
  obtain ⟨kb, hkb⟩ : ∃ kb, kb = (decide (0 ≤ ex) && decide (ex < (n : Int))) := ⟨_, rfl⟩
  have gt := there_any R n ex w (h.s.blk.cell 0)
  rw [← hkb] at gt
  have GT := Lib.hid gt
  have HKB := Lib.hid hkb
  obtain ⟨pn, hpn⟩ : ∃ pn, pn = P.length := ⟨_, rfl⟩
  have PN := Lib.hid hpn.symm
  have hpb : pn ≤ 3000000000000 := by rw [hpn]; exact Nat.le_trans h.len hi
  have c2 : w.cell? ⟨R, 2, none⟩ = some (.slice A pn c) := by rw [hpn]; exact h.s.blk.cell 2
  have C2 := Lib.hid c2
  have hRlt := h.s.blk.lt
  clear h hG gt hkb hpn c2
  go_enter Try.func46, Try.ntmps46
  go_wp2_with fail
  refine GT.out.mono ?_
  rintro e w' ⟨rfl, rfl⟩
  clear GT
  by_cases hx : 0 ≤ ex ∧ ex < (n : Int)
  case neg =>
    obtain rfl : kb = false := by
      rw [HKB.out, Bool.and_eq_false_iff]
      by_cases h1 : 0 ≤ ex
      · exact .inr (decide_eq_false fun h2 => hx ⟨h1, h2⟩)
      · exact .inl (decide_eq_false h1)
    have e1 := Lib.hid (show listT n L ex 0 = ([], 0, 2) from by unfold listT; rw [if_pos hx])
    clear hx
    go_wp2
    go_ret3
    rw [e1.out]
    exact ⟨none, 0, rfl, Rd.nil_, Below.refl _ _⟩
  obtain rfl : kb = true := by rw [HKB.out, decide_eq_true hx.1, decide_eq_true hx.2]; rfl
  obtain ⟨x, hxe⟩ : ∃ x : Nat, ex = (x : Int) := ⟨ex.toNat, by omega⟩
  subst hxe
  have hxn : x < n := by omega
  obtain ⟨H, hperm, hpw, hmap⟩ := H0.out.sim.hd x hxn
  have hpos : ∀ p ∈ H, 1 ≤ p.2.2.2.2 := fun p hp => by
    have h2 := List.mem_filter.1 (hperm.subset hp)
    have h3 := h2.2
    unfold heldB at h3
    rw [Bool.and_eq_true] at h3
    exact (H0.out.sim.tn p h2.1 h3.2).1
  have e1 := list0 (L := L) hxn
  have hsh := (HG.out x hxn).sh
  rw [← hmap, List.map_map] at e1
  rw [← hmap] at hsh
  have E1 := Lib.hid e1
  have HSH := Lib.hid hsh
  have HPERM := Lib.hid hperm
  have HPW := Lib.hid hpw
  have HPOS := Lib.hid hpos
  clear hx e1 hsh hperm hpw hpos hmap
  go_wp2_with fail
  go_loopw [8, 9] (fun t8 t9 wr => ∃ (j : Nat) (Al : Option Addr) (ln lc : Nat), j ≤ pn ∧ t9 = .int .i64 (j : Int) ∧ t8 = .slice Al ln lc ∧ ln ≤ j ∧ Hid (GSl encR 5 104 wr Al lc ((P.take j).filter (heldB (x : Int)))) ∧ Hid (((P.take j).filter (heldB (x : Int))).length = ln) ∧ Hid (Al = none ∨ ∃ g, Al = some ⟨g, 0, none⟩ ∧ w.heap.size ≤ g) ∧ Hid (Below w.heap.size w wr)) (fun _ t9 _ => pn - (intOf t9).toNat)
  case atStart => exact ⟨0, none, 0, 0, Nat.zero_le _, rfl, rfl, Nat.le_refl _, Lib.hid GSl.nil_, Lib.hid rfl, Lib.hid (.inl rfl), Lib.hid (Below.refl _ _)⟩
  case round =>
    obtain ⟨j, Al, ln, lc, hj, rfl, rfl, hln, hG1, hrl, hloc, hB⟩ := hrel
    have c2 : wr.cell? ⟨R, 2, none⟩ = some (.slice A pn c) := (hB.out.cell (p := ⟨R, 2, none⟩) hRlt).trans C2.out
    by_cases hlj : j < pn
    · have hlj' : (j : Int) < (pn : Int) := by omega
      obtain ⟨g, off, p, hA, hg, hx, hcell⟩ := (H0.out.s.gsl.rds.below hB.out).at_ (show j < P.length by rw [PN.out]; exact hlj)
      subst hA
      obtain ⟨pe, pm, po, ph, pt⟩ := p
      have x0 : wr.cell? ⟨g, off + j * 5, none⟩ = some (.int .i64 pe) := hcell 0 _ rfl
      have x1 : wr.cell? ⟨g, off + j * 5 + 1, none⟩ = some (.int .i64 pm) := hcell 1 _ rfl
      have x2 : wr.cell? ⟨g, off + j * 5 + 2, none⟩ = some (.int .i64 po) := hcell 2 _ rfl
      have x3 : wr.cell? ⟨g, off + j * 5 + 3, none⟩ = some (.bool ph) := hcell 3 _ rfl
      have x4 : wr.cell? ⟨g, off + j * 5 + 4, none⟩ = some (.int .i64 pt) := hcell 4 _ rfl
      have hst : (P.take (j + 1)).filter (heldB (x : Int)) = (P.take j).filter (heldB (x : Int)) ++ (if heldB (x : Int) (pe, pm, po, ph, pt) = true then [(pe, pm, po, ph, pt)] else []) := by
        rw [List.take_add_one, hx, List.filter_append]
        congr 1
        show List.filter _ [_] = _
        rw [List.filter_cons]
        rfl
      clear hcell hx
      cases h1 : (pe == (x : Int)) with
      | false =>
        rw [if_neg (by unfold heldB; rw [h1]; simp), List.append_nil] at hst
        have HST := Lib.hid hst
        clear hst
        go_wp2
        go_roundw
        case rel => exact ⟨j + 1, Al, ln, lc, by omega, by go_num, rfl, by omega, by rw [HST.out]; exact hG1, by rw [HST.out]; exact hrl, hloc, hB⟩
        case measure => simp [intOf]; omega
      | true =>
        cases ph with
        | false =>
          rw [if_neg (by unfold heldB; rw [h1]; simp), List.append_nil] at hst
          have HST := Lib.hid hst
          clear hst
          go_wp2
          go_roundw
          case rel => exact ⟨j + 1, Al, ln, lc, by omega, by go_num, rfl, by omega, by rw [HST.out]; exact hG1, by rw [HST.out]; exact hrl, hloc, hB⟩
          case measure => simp [intOf]; omega
        | true =>
          rw [if_pos (by unfold heldB; rw [h1]; simp)] at hst
          have HST := Lib.hid hst
          have ga := hG1.out.chg (Chg.alloc (fun _ _ => False) wr (.cells #[.int .i64 pe, .int .i64 pm, .int .i64 po, .bool true, .int .i64 pt] 104)) encR_len fun _ _ _ h => h
          have GA := Lib.hid ga
          have Rn := Lib.hid (show RdS encR 5 (wr.alloc (.cells #[.int .i64 pe, .int .i64 pm, .int .i64 po, .bool true, .int .i64 pt] 104)) (some ⟨wr.heap.size, 0, none⟩) [(pe, pm, po, true, pt)] from RdS.new1 encR 5 wr 104 (pe, pm, po, true, pt))
          clear hst ga
          go_wp2_with (
            at_builtin
            refine wpList_appendG rTy (by decide) encR_len encR_one rfl (.tmp 49) (.tmp 57) rfl Al lc ((P.take j).filter (heldB (x : Int))) (by rw [hrl.out]; rfl) GA.out (some ⟨wr.heap.size, 0, none⟩) 1 [(pe, pm, po, true, pt)] rfl Rn.out (by rw [hrl.out]; simp only [maxLen, List.length_singleton]; omega) (by rw [hrl.out]; simp only [List.length_singleton]; omega) ?_
            intro A6 c6 w8 h8 k8 q8
            have hlen8 : ((P.take j).filter (heldB (x : Int)) ++ [(pe, pm, po, true, pt)]).length = ln + 1 := by rw [List.length_append, hrl.out]; rfl
            rw [hlen8]
            have HL8 := Lib.hid hlen8
            have H8 := Lib.hid h8
            have L8 := Lib.hid (show A6 = none ∨ ∃ g, A6 = some ⟨g, 0, none⟩ ∧ w.heap.size ≤ g from by
              rcases q8 with ⟨e1, _⟩ | ⟨g2, e1, hg2⟩
              · rw [e1]; exact hloc.out
              · exact .inr ⟨g2, e1, by have := hB.out.size; simp at hg2; omega⟩)
            have B8 := Lib.hid ((hB.out.alloc hB.out.size (.cells #[.int .i64 pe, .int .i64 pm, .int .i64 po, .bool true, .int .i64 pt] 104)).trans (k8.below (by have := hB.out.size; simp; omega) fun k2 i2 hk hf => by
              obtain ⟨a, ea, e⟩ := slFp_blk hf
              rcases hloc.out with h1 | ⟨g2, h1, hg2⟩
              · rw [h1] at ea; cases ea
              · rw [h1] at ea; cases ea
                have e3 : g2 = k2 := e
                omega))
            clear h8 k8 q8 hlen8
            )
          go_roundw
          case rel => exact ⟨j + 1, A6, ln + 1, c6, by omega, by go_num, rfl, by omega, by rw [HST.out]; exact H8, by rw [HST.out]; exact HL8, L8, B8⟩
          case measure => simp [intOf]; omega
    · obtain rfl : j = pn := by omega
      rw [List.take_of_length_le (by rw [PN.out]; exact Nat.le_refl _)] at hG1 hrl
      obtain ⟨l, hl⟩ : ∃ l, l = P.filter (heldB (x : Int)) := ⟨_, rfl⟩
      rw [← hl] at hG1 hrl HPERM
      have hHl := Lib.hid (show H.length = ln by rw [HPERM.out.length_eq]; exact hrl.out)
      clear hl hloc
      go_wp2_with fail
      go_loopw [10, 11, 12] (fun t10 t11 t12 wr => ∃ (m : Nat) (Ao : Option Addr) (oc : Nat), m ≤ ln ∧ t10 = .slice Ao m oc ∧ t11 = .int .i64 (lastM H m) ∧ t12 = .int .i64 (lastT H m) ∧ Hid (KO wr Ao oc ((H.take m).map (·.2.2.1)) ∧ ∀ ad, Ao = some ad → w.heap.size ≤ ad.block) ∧ Hid (GSl encR 5 104 wr Al lc l) ∧ Hid (Below w.heap.size w wr)) (fun t10 _ _ _ => ln - slLen t10)
      case atStart => exact ⟨0, none, 0, Nat.zero_le _, rfl, rfl, rfl, Lib.hid ⟨⟨GSl.nil_, .inl rfl⟩, fun _ h => by cases h⟩, hG1, hB⟩
      case round =>
        clear hG1 hB
        obtain ⟨m, Ao, oc, hm, rfl, rfl, rfl, hK, hGl, hBw⟩ := hrel
        by_cases hlm : m < ln
        · have hlm' : (m : Int) < (ln : Int) := by omega
          obtain ⟨la, hla⟩ : ∃ la, la = lastT H m := ⟨_, rfl⟩
          obtain ⟨lm, hlmd⟩ : ∃ lm, lm = lastM H m := ⟨_, rfl⟩
          rw [← hla, ← hlmd]
          have HLA := Lib.hid hla
          have htl := Lib.hid (show ((H.take m).map (·.2.2.1)).length = m by rw [List.length_map, List.length_take, hHl.out]; omega)
          obtain ⟨hmm, hHm⟩ : ∃ hmm, H[m]? = some hmm := ⟨_, List.getElem?_eq_getElem (by rw [hHl.out]; exact hlm)⟩
          have HHM := Lib.hid hHm
          clear hla hlmd hHm
          go_wp2_with fail
          obtain ⟨wo, hwo⟩ : ∃ wo : World, wo = wr := ⟨_, rfl⟩
          rw [← hwo] at hK hGl hBw ⊢
          clear hwo
          go_loopw [13, 14] (fun t13 t14 wr => ∃ (j : Nat) (kk : Int), j ≤ ln ∧ t14 = .int .i64 (j : Int) ∧ t13 = .int .i64 kk ∧ Hid (SelAt l la j kk) ∧ Hid (Below wo.heap.size wo wr)) (fun _ t14 _ => ln - (intOf t14).toNat)
          case atStart => exact ⟨0, -1, Nat.zero_le _, rfl, rfl, Lib.hid (.inl ⟨rfl, fun i p hi _ => by omega⟩), Lib.hid (Below.refl _ _)⟩
          case round =>
            obtain ⟨j, kk, hj, rfl, rfl, hsel, hB⟩ := hrel
            by_cases hlj : j < ln
            · have hlj' : (j : Int) < (ln : Int) := by omega
              obtain ⟨g, off, p, hA, hg, hx, hcell⟩ := (hGl.out.rds.below hB.out).at_ (show j < l.length by rw [hrl.out]; exact hlj)
              subst hA
              have x4 : wr.cell? ⟨g, off + j * 5 + 4, none⟩ = some (.int .i64 p.2.2.2.2) := hcell 4 _ rfl
              have HX := Lib.hid hx
              obtain ⟨pt, hpt⟩ : ∃ pt, pt = p.2.2.2.2 := ⟨_, rfl⟩
              rw [← hpt] at x4
              have HPT := Lib.hid hpt
              clear hcell hx hpt
              by_cases hgt : la < pt
              · have hgt' : decide (la < pt) = true := decide_eq_true hgt
                by_cases hk0 : kk < 0
                · have hk0' : decide (kk < 0) = true := decide_eq_true hk0
                  have hkm : kk = -1 := by
                    rcases hsel.out with ⟨h1, _⟩ | ⟨i2, _, h1, _⟩
                    · exact h1
                    · omega
                  have hs2 := Lib.hid (show SelAt l la (j + 1) (j : Int) from sel_new (by rw [← hkm]; exact hsel.out) HX.out (by rw [← HPT.out]; exact hgt))
                  clear hkm
                  go_wp2_with fail
                  go_quiet (fail)
                  go_wp2
                  go_roundw
                  case rel => exact ⟨j + 1, (j : Int), by omega, by go_num, rfl, hs2, Lib.hid (below_drewN hB.out _)⟩
                  case measure => simp [intOf]; omega
                · obtain ⟨i2, rfl⟩ : ∃ i2 : Nat, kk = (i2 : Int) := ⟨kk.toNat, by omega⟩
                  have hi2 : i2 < j ∧ ∃ q, l[i2]? = some q := by
                    rcases hsel.out with ⟨h1, _⟩ | ⟨i3, q, h1, h2, h3, _⟩
                    · omega
                    · obtain rfl : i2 = i3 := by omega
                      exact ⟨h2, q, h3⟩
                  obtain ⟨hij, q, hq⟩ := hi2
                  have hi2l : i2 < ln := by omega
                  have hi2l' : (i2 : Int) < (ln : Int) := by omega
                  obtain ⟨g3, off3, hA3, hg3, hcell3⟩ := (hGl.out.rds.below hB.out) i2 q hq
                  cases hA3
                  have z4 : wr.cell? ⟨g, off + i2 * 5 + 4, none⟩ = some (.int .i64 q.2.2.2.2) := hcell3 4 _ rfl
                  obtain ⟨qt, hqt⟩ : ∃ qt, qt = q.2.2.2.2 := ⟨_, rfl⟩
                  rw [← hqt] at z4
                  have HQ := Lib.hid hq
                  have HQT := Lib.hid hqt
                  clear hcell3 hq hqt
                  by_cases hpq : pt < qt
                  · have hpq' : decide (pt < qt) = true := decide_eq_true hpq
                    have hs2 := Lib.hid (show SelAt l la (j + 1) (j : Int) from sel_less hsel.out HQ.out HX.out (by rw [← HPT.out]; exact hgt) (by rw [← HPT.out, ← HQT.out]; exact hpq))
                    have hk0' : decide ((i2 : Int) < 0) = false := decide_eq_false hk0
                    go_wp2_with fail
                    go_quiet (fail)
                    go_wp2
                    go_roundw
                    case rel => exact ⟨j + 1, (j : Int), by omega, by go_num, rfl, hs2, Lib.hid (below_drewN hB.out _)⟩
                    case measure => simp [intOf]; omega
                  · have hpq' : decide (pt < qt) = false := decide_eq_false hpq
                    have hs2 := Lib.hid (show SelAt l la (j + 1) (i2 : Int) from sel_keep hsel.out HQ.out HX.out (by rw [← HPT.out, ← HQT.out]; exact hpq))
                    have hk0' : decide ((i2 : Int) < 0) = false := decide_eq_false hk0
                    go_wp2_with fail
                    go_quiet (fail)
                    go_wp2
                    go_roundw
                    case rel => exact ⟨j + 1, (i2 : Int), by omega, by go_num, rfl, hs2, Lib.hid (below_drewN hB.out _)⟩
                    case measure => simp [intOf]; omega
              · have hgt' : decide (la < pt) = false := decide_eq_false hgt
                have hs2 := Lib.hid (show SelAt l la (j + 1) kk from sel_skip hsel.out HX.out (by rw [← HPT.out]; omega))
                go_wp2_with fail
                go_quiet (fail)
                go_wp2
                go_roundw
                case rel => exact ⟨j + 1, kk, by omega, by go_num, rfl, hs2, Lib.hid (below_drewN hB.out _)⟩
                case measure => simp [intOf]; omega
            · obtain rfl : j = ln := by omega
              obtain ⟨i2, rfl, hi2, hl2⟩ := sel_end HPERM.out HPW.out HPOS.out HHM.out (by rw [hrl.out, ← HLA.out]; exact hsel.out)
              obtain ⟨g, off, hA, hg, hcell⟩ := (hGl.out.rds.below hB.out) i2 hmm hl2
              subst hA
              have hi2l : i2 < j := by rw [← hrl.out]; exact hi2
              have hi2l' : (i2 : Int) < (j : Int) := by omega
              have y1 : wr.cell? ⟨g, off + i2 * 5 + 1, none⟩ = some (.int .i64 hmm.2.1) := hcell 1 _ rfl
              have y2 : wr.cell? ⟨g, off + i2 * 5 + 2, none⟩ = some (.int .i64 hmm.2.2.1) := hcell 2 _ rfl
              have y4 : wr.cell? ⟨g, off + i2 * 5 + 4, none⟩ = some (.int .i64 hmm.2.2.2.2) := hcell 4 _ rfl
              have Ko := Lib.hid (hK.out.1.below hB.out)
              have Bw := Lib.hid (hBw.out.trans (hB.out.mono hBw.out.size))
              have Gw := Lib.hid (hGl.out.chg (Chg.of_below (fun _ _ => False) hB.out) encR_len fun _ _ _ h => h)
              have KA := Lib.hid (Ko.out.1.chg (Chg.alloc (fun _ _ => False) wr (.cells #[.int .i64 hmm.2.2.1] 3)) enc1_len fun _ _ _ h => h)
              have Rn := Lib.hid (show RdS enc1 1 (wr.alloc (.cells #[.int .i64 hmm.2.2.1] 3)) (some ⟨wr.heap.size, 0, none⟩) [hmm.2.2.1] from RdS.new1 enc1 1 wr 3 hmm.2.2.1)
              have HCELL := Lib.hid hcell
              clear hcell hi2 hl2 hB hsel
              go_wp2_with (
                at_builtin
                refine wpList_appendG intTy (by decide) enc1_len enc1_one rfl (.tmp 95) (.tmp 101) rfl Ao oc ((H.take m).map (·.2.2.1)) (by rw [htl.out]; rfl) KA.out (some ⟨wr.heap.size, 0, none⟩) 1 [hmm.2.2.1] rfl Rn.out (by rw [htl.out]; simp only [maxLen, List.length_singleton]; omega) (by rw [htl.out]; simp only [List.length_singleton]; omega) ?_
                intro A6 c6 w8 h8 k8 q8
                have hlen8 : ((H.take m).map (·.2.2.1) ++ [hmm.2.2.1]).length = m + 1 := by rw [List.length_append, htl.out]; rfl
                rw [hlen8]
                have kk : Chg (slFp 1 Ao ((H.take m).map (·.2.2.1)).length oc) wr w8 := (Chg.alloc (slFp 1 Ao ((H.take m).map (·.2.2.1)).length oc) wr (.cells #[.int .i64 hmm.2.2.1] 3)).trans k8 fun _ _ _ h => h
                have hne : ∀ ad, Ao = some ad → ad.block ≠ g := fun ad e e2 => by
                  obtain ⟨cs, hb⟩ := Ko.out.blk e
                  rcases Gw.out with ⟨h2, _⟩ | ⟨g2, o2, cs2, h2, _, _, h3, _⟩
                  · cases h2
                  · cases h2; exact blk_type_ne hb h3 (by decide) e2
                have hfar : ∀ i : Nat, ¬ slFp 1 Ao ((H.take m).map (·.2.2.1)).length oc g i := fun i hf => by
                  obtain ⟨ad, ea, e⟩ := slFp_blk hf
                  exact hne ad ea e
                have G8 := Lib.hid (Gw.out.chg kk encR_len fun g2 i hs hf => by
                  obtain ⟨o, e, _⟩ := hs
                  cases e
                  exact hfar i hf)
                have y1 : w8.cell? ⟨g, off + i2 * 5 + 1, none⟩ = some (.int .i64 hmm.2.1) := kk.cell (hfar _) (HCELL.out 1 _ rfl)
                have y4 : w8.cell? ⟨g, off + i2 * 5 + 4, none⟩ = some (.int .i64 hmm.2.2.2.2) := kk.cell (hfar _) (HCELL.out 4 _ rfl)
                have K8 := Lib.hid (show KO w8 A6 c6 ((H.take (m + 1)).map (·.2.2.1)) ∧ ∀ ad, A6 = some ad → w.heap.size ≤ ad.block from by
                  rw [List.take_add_one, HHM.out, List.map_append]
                  refine ⟨⟨h8, by
                    rcases q8 with ⟨e1, _⟩ | ⟨g2, e1, _⟩
                    · rw [e1]; exact Ko.out.2
                    · exact .inr ⟨g2, e1⟩⟩, fun ad e => by
                    rcases q8 with ⟨e1, _⟩ | ⟨g2, e1, hg2⟩
                    · rw [e1] at e; exact hK.out.2 ad e
                    · rw [e1] at e; cases e
                      have := Bw.out.size
                      simp at hg2
                      show w.heap.size ≤ g2
                      omega⟩)
                have B8 := Lib.hid (Bw.out.trans (kk.below Bw.out.size fun k2 i2 hk hf => by
                  obtain ⟨a, ea, e⟩ := slFp_blk hf
                  have := hK.out.2 a ea
                  omega))
                clear h8 k8 q8 hlen8 kk hne hfar
                )
              go_roundw
              case rel => exact ⟨m + 1, A6, c6, by omega, rfl, by rw [lastM_s, HHM.out]; rfl, by rw [lastT_s, HHM.out]; rfl, K8, G8, B8⟩
              case measure => simp [slLen]; omega
        · obtain rfl : m = ln := by omega
          have hmode : lastM H m = modeOf (H.map plR) 0 := by
            have h5 := mode_all H HSH.out
            rw [hHl.out] at h5
            exact h5
          have HMO := Lib.hid hmode
          have HLL := Lib.hid (show (H.take m).map (fun p => p.2.2.1) = H.map (fun p => p.2.2.1) by rw [List.take_of_length_le (by rw [hHl.out]; exact Nat.le_refl _)])
          have hln2 := Lib.hid (show (H.map (fun p => p.2.2.1)).length = m by rw [List.length_map, hHl.out])
          clear hmode
          go_wp2
          go_ret3
          rw [E1.out]
          refine ⟨Ao, oc, ?_, ?_, hBw.out⟩
          · dsimp only
            rw [show ((H.map ((fun p : Pl => p.1) ∘ plR)).length) = m from hln2.out, ← HMO.out]
            rfl
          · have := hK.out.1.kept.1
            rw [HLL.out] at this
            exact this
end Go.Proofs.Ytkjbjfjgnponfaa
