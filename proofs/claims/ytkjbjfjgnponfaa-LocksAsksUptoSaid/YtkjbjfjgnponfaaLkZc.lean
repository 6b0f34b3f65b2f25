/- The document's table of locks: New, Drop, Holds, Holders, Waiters, by contract. -/
import Derived.Test.YtkjbjfjgnponfaaLkZb
import Derived.Deep.QuietTactic
namespace Go.Proofs.Ytkjbjfjgnponfaa
open Go.RowKit
set_option linter.unusedSimpArgs false
set_option linter.unusedVariables false
theorem rnew_ok (n : Nat) (most : Int) (w : World) (h1 : 1 ≤ n) (h2 : n ≤ 4096) (h3 : 0 ≤ most) (h4 : most ≤ 512) :
    Calls Try.prog 39 #[.int .i64 (n : Int), .int .i64 most] w fun e w' => ∃ R, e = .returned (.tuple #[.pointer (some ⟨R, 0, none⟩), .int .i64 0]) ∧ RS w.heap.size w' R n 0 most none 0 [] 0 (fun _ => []) ∧ Below w.heap.size w w' := by
  have a1 : ¬ (n : Int) < 1 := by omega
  have a2 : ¬ (4096 : Int) < (n : Int) := by omega
  have a3 : ¬ most < 0 := by omega
  have a4 : ¬ (512 : Int) < most := by omega
  go_enter Try.func39, Try.ntmps39
  go_wp2
  go_ret2
  exact ⟨w.heap.size, rfl, ⟨⟨Blk.new w _ _, GSl.nil_, .inl rfl, Nat.le_refl _⟩, Sim.nil_ n, Nat.zero_le _, by rw [rowSum_nil]; decide⟩, (Below.refl _ _).alloc (Nat.le_refl _) _⟩
theorem rnew_no (a b : Int) (w : World) (h : ¬ (1 ≤ a ∧ a ≤ 4096 ∧ 0 ≤ b ∧ b ≤ 512)) :
    Calls Try.prog 39 #[.int .i64 a, .int .i64 b] w fun e w' => e = .returned (.tuple #[.pointer none, .int .i64 1]) ∧ w = w' := by
  by_cases h1 : a < 1
  · go_enter Try.func39, Try.ntmps39
    go_wp2
    go_ret2
    exact ⟨rfl, rfl⟩
  · by_cases h2 : 4096 < a
    · go_enter Try.func39, Try.ntmps39
      go_wp2
      go_ret2
      exact ⟨rfl, rfl⟩
    · by_cases h3 : b < 0
      · go_enter Try.func39, Try.ntmps39
        go_wp2
        go_ret2
        exact ⟨rfl, rfl⟩
      · have h4 : 512 < b := Classical.byContradiction fun h5 => h ⟨by omega, by omega, by omega, by omega⟩
        go_enter Try.func39, Try.ntmps39
        go_wp2
        go_ret2
        exact ⟨rfl, rfl⟩
theorem new_no (a b : Int) (w : World) (h : ¬ (1 ≤ a ∧ a ≤ 4096 ∧ 0 ≤ b ∧ b ≤ 512)) :
    Calls Try.prog 30 #[.int .i64 a, .int .i64 b] w fun e w' => e = .returned (.tuple #[.pointer none, .int .i64 1]) ∧ w = w' := by
  by_cases h1 : a < 1
  · go_enter Try.func30, Try.ntmps30
    go_wp2
    go_ret2
    exact ⟨rfl, rfl⟩
  · by_cases h2 : 4096 < a
    · go_enter Try.func30, Try.ntmps30
      go_wp2
      go_ret2
      exact ⟨rfl, rfl⟩
    · by_cases h3 : b < 0
      · go_enter Try.func30, Try.ntmps30
        go_wp2
        go_ret2
        exact ⟨rfl, rfl⟩
      · have h4 : 512 < b := Classical.byContradiction fun h5 => h ⟨by omega, by omega, by omega, by omega⟩
        go_enter Try.func30, Try.ntmps30
        go_wp2
        go_ret2
        exact ⟨rfl, rfl⟩
/-- what Holds answers -/
theorem holds_eq {n : Nat} {L : Nat → List Pl} {P : List RP} {turns : Int} (h : Sim n L P turns) (hg : Good n L) (ex o : Int) :
    holdsT n L ex o = match P.findIdx? (ownB ex o) with | some k => (match P[k]? with | some p => p.2.2.2.1 | none => false) | none => false := by
  unfold holdsT
  by_cases hx : 0 ≤ ex ∧ ex < (n : Int)
  · obtain ⟨x, rfl⟩ : ∃ x : Nat, ex = (x : Int) := ⟨ex.toNat, by omega⟩
    have hxn : x < n := by omega
    rw [if_neg (fun h => h hx), Int.toNat_natCast]
    obtain ⟨H, h1, _, h3⟩ := h.hd x hxn
    cases hf : P.findIdx? (ownB (x : Int) o) with
    | none =>
      dsimp only
      rw [decide_eq_false_iff_not]
      intro h5
      have h6 := (h.mem hxn o).1 (.inl (findI_mem.1 h5))
      unfold idxI at h6
      rw [hf] at h6
      simp at h6
    | some k =>
      have hk := hf
      rw [List.findIdx?_eq_some_iff_getElem] at hk
      obtain ⟨hk1, hk2, _⟩ := hk
      dsimp only
      rw [List.getElem?_eq_getElem hk1]
      dsimp only
      have hb := hk2
      unfold ownB at hb
      rw [Bool.and_eq_true, beq_iff_eq, beq_iff_eq] at hb
      cases hh : P[k].2.2.2.1 with
      | true =>
        rw [decide_eq_true_iff, findI_mem, ← h3, List.map_map]
        refine List.mem_map.2 ⟨P[k], h1.symm.subset (List.mem_filter.2 ⟨List.getElem_mem hk1, ?_⟩), hb.2⟩
        unfold heldB
        rw [hb.1, hh]
        simp
      | false =>
        rw [decide_eq_false_iff_not]
        intro h5
        have hm := findI_mem.1 h5
        have hw : o ∈ (L (x * 2 + 1)).map (·.1) := by
          rw [← h.wt x hxn, List.map_map]
          refine List.mem_map.2 ⟨P[k], List.mem_filter.2 ⟨List.getElem_mem hk1, ?_⟩, hb.2⟩
          unfold waitB
          rw [hb.1, hh]
          simp
        have hnd := (hg x hxn).nod
        rw [List.map_append, List.nodup_append] at hnd
        exact hnd.2.2 o hm o hw rfl
  · rw [if_pos hx]
    have : P.findIdx? (ownB ex o) = none := by
      rw [List.findIdx?_eq_none_iff]
      intro p hp
      obtain ⟨x, hxn, e⟩ := h.ext p hp
      unfold ownB
      have : (p.1 == ex) = false := by
        rw [beq_eq_false_iff_ne, e]
        intro e2
        exact hx ⟨by omega, by omega⟩
      rw [this]
      rfl
    rw [this]
set_option maxHeartbeats 4000000 in
theorem rholds_any (base R n i c : Nat) (most : Int) (A : Option Addr) (P : List RP) (turns : Int) (L : Nat → List Pl) (ex owner : Int) (w : World) (h : RS base w R n i most A c P turns L) (hG : Good n L) (hi : i ≤ 3000000000000) :
    Calls Try.prog 45 #[.pointer (some ⟨R, 0, none⟩), .int .i64 ex, .int .i64 owner] w fun e w' => e = .returned (.bool (holdsT n L ex owner)) ∧ w = w' := by
  obtain ⟨pn, hpn⟩ : ∃ pn, pn = P.length := ⟨_, rfl⟩
  have hpb : pn ≤ 3000000000000 := by rw [hpn]; exact Nat.le_trans h.len hi
  have c2 : w.cell? ⟨R, 2, none⟩ = some (.slice A pn c) := by rw [hpn]; exact h.s.blk.cell 2
  have gf := rfind_any R pn c A P ex owner w hpn.symm (by omega) c2 h.s.gsl.rds
  have he := holds_eq h.sim hG ex owner
  have H := Lib.hid h
  have PN := Lib.hid hpn.symm
  clear h hG hpn
  cases hf : P.findIdx? (ownB ex owner) with
  | none =>
    rw [hf] at he
    rw [show idxI P (ownB ex owner) = -1 from by unfold idxI; rw [hf]] at gf
    have GF := Lib.hid gf
    have HE := Lib.hid (show holdsT n L ex owner = false from he)
    clear gf he hf
    go_enter Try.func45, Try.ntmps45
    go_wp2_with fail
    refine GF.out.mono ?_
    rintro e w' ⟨rfl, rfl⟩
    go_wp2
    go_ret
    exact ⟨by rw [HE.out]; rfl, rfl⟩
  | some k =>
    rw [hf] at he
    rw [show idxI P (ownB ex owner) = (k : Int) from by unfold idxI; rw [hf]] at gf
    have hk := hf
    rw [List.findIdx?_eq_some_iff_getElem] at hk
    have hk1 : k < P.length := hk.1
    clear hk
    obtain ⟨g, off, p, hA, hg, hx, hcell⟩ := H.out.s.gsl.rds.at_ hk1
    dsimp only at he
    rw [hx] at he
    have x3 : w.cell? ⟨g, off + k * 5 + 3, none⟩ = some (.bool p.2.2.2.1) := hcell 3 _ rfl
    have hkn : k < pn := by rw [← PN.out]; exact hk1
    have hkn' : (k : Int) < (pn : Int) := by omega
    subst hA
    have GF := Lib.hid gf
    have HE := Lib.hid (show holdsT n L ex owner = p.2.2.2.1 from he)
    clear gf he hf hcell hx hk1
    go_enter Try.func45, Try.ntmps45
    go_wp2_with fail
    refine GF.out.mono ?_
    rintro e w' ⟨rfl, rfl⟩
    go_wp2
    go_ret
    exact ⟨by rw [HE.out]; rfl, rfl⟩
set_option maxRecDepth 20000 in
set_option maxHeartbeats 8000000 in
theorem rwaiters_any (base R n i c : Nat) (most : Int) (A : Option Addr) (P : List RP) (turns : Int) (L : Nat → List Pl) (ex : Int) (w : World) (h : RS base w R n i most A c P turns L) (hi : i ≤ 3000000000000) :
    Calls Try.prog 47 #[.pointer (some ⟨R, 0, none⟩), .int .i64 ex] w fun e w' => ∃ Ag gc, e = .returned (.tuple #[.slice Ag (listT n L ex 1).1.length gc, .int .i64 (listT n L ex 1).2.2]) ∧ Rd encI w' Ag (listT n L ex 1).1 ∧ Below w.heap.size w w' := by
  have H := Lib.hid h
  obtain ⟨kb, hkb⟩ : ∃ kb, kb = (decide (0 ≤ ex) && decide (ex < (n : Int))) := ⟨_, rfl⟩
  have gt := there_any R n ex w (h.s.blk.cell 0)
  rw [← hkb] at gt
  have GT := Lib.hid gt
  have HKB := Lib.hid hkb
  obtain ⟨pn, hpn⟩ : ∃ pn, pn = P.length := ⟨_, rfl⟩
  have PN := Lib.hid hpn.symm
  have hpb : pn ≤ 3000000000000 := by rw [hpn]; exact Nat.le_trans h.len hi
  have c2 : w.cell? ⟨R, 2, none⟩ = some (.slice A pn c) := by rw [hpn]; exact h.s.blk.cell 2
  have C2 := Lib.hid c2
  have hRlt := h.s.blk.lt
  clear h gt hkb hpn c2
  go_enter Try.func47, Try.ntmps47
  go_wp2_with fail
  refine GT.out.mono ?_
  rintro e w' ⟨rfl, rfl⟩
  clear GT
  by_cases hx : 0 ≤ ex ∧ ex < (n : Int)
  case neg =>
    obtain rfl : kb = false := by
      rw [HKB.out, Bool.and_eq_false_iff]
      by_cases h1 : 0 ≤ ex
      · exact .inr (decide_eq_false fun h2 => hx ⟨h1, h2⟩)
      · exact .inl (decide_eq_false h1)
    have e1 := Lib.hid (show listT n L ex 1 = ([], 0, 2) from by unfold listT; rw [if_pos hx])
    clear hx
    go_wp2
    go_ret2
    rw [e1.out]
    exact ⟨none, 0, rfl, Rd.nil_, Below.refl _ _⟩
  obtain rfl : kb = true := by rw [HKB.out, decide_eq_true hx.1, decide_eq_true hx.2]; rfl
  obtain ⟨x, hxe⟩ : ∃ x : Nat, ex = (x : Int) := ⟨ex.toNat, by omega⟩
  subst hxe
  have hxn : x < n := by omega
  have hw := H.out.sim.wt x hxn
  have e1 := list1 (L := L) hxn
  rw [← hw, List.map_map] at e1
  have E1 := Lib.hid e1
  clear hx hw e1
  go_wp2_with fail
  go_loopw [7, 8] (fun t7 t8 wr => ∃ k : Nat, k ≤ pn ∧ t8 = .int .i64 (k : Int) ∧ Own encI 3 wr w.heap.size t7 (((P.take k).filter (waitB (x : Int))).map (·.2.2.1)) ∧ Below w.heap.size w wr) (fun _ t8 _ => pn - (intOf t8).toNat)
  case atStart => exact ⟨0, Nat.zero_le _, rfl, Own.nil_ _ _ _ _, Below.refl _ _⟩
  case round =>
    obtain ⟨k, hk, rfl, ho, hB⟩ := hrel
    have hlen := Lib.hid (show (((P.take k).filter (waitB (x : Int))).map (·.2.2.1)).length ≤ 3000000000000 by
      rw [List.length_map]
      refine Nat.le_trans (List.length_filter_le _ _) ?_
      rw [List.length_take]; omega)
    have c2 : wr.cell? ⟨R, 2, none⟩ = some (.slice A pn c) := (hB.cell (p := ⟨R, 2, none⟩) hRlt).trans C2.out
    by_cases hlk : k < pn
    · have hlk' : (k : Int) < (pn : Int) := by omega
      obtain ⟨g, off, p, hA, hg, hx, hcell⟩ := (H.out.s.gsl.rds.below hB).at_ (show k < P.length by rw [PN.out]; exact hlk)
      subst hA
      have x0 : wr.cell? ⟨g, off + k * 5, none⟩ = some (.int .i64 p.1) := hcell 0 _ rfl
      have x2 : wr.cell? ⟨g, off + k * 5 + 2, none⟩ = some (.int .i64 p.2.2.1) := hcell 2 _ rfl
      have x3 : wr.cell? ⟨g, off + k * 5 + 3, none⟩ = some (.bool p.2.2.2.1) := hcell 3 _ rfl
      have hst : ((P.take (k + 1)).filter (waitB (x : Int))).map (fun p => p.2.2.1) = ((P.take k).filter (waitB (x : Int))).map (fun p => p.2.2.1) ++ (if waitB (x : Int) p = true then [p.2.2.1] else []) := by
        rw [List.take_add_one, hx, List.filter_append, List.map_append]
        congr 1
        show List.map _ (List.filter _ [p]) = _
        rw [List.filter_cons]
        split <;> rfl
      have HB := Lib.hid hB
      have HO := Lib.hid ho
      clear hcell hx hB ho
      cases h1 : (p.1 == (x : Int)) with
      | false =>
        rw [if_neg (by unfold waitB; rw [h1]; simp), List.append_nil] at hst
        have HST := Lib.hid hst
        clear hst
        go_wp2
        go_roundw
        case rel => exact ⟨k + 1, by omega, by go_num, by rw [HST.out]; exact HO.out, HB.out⟩
        case measure => simp [intOf]; omega
      | true =>
        cases h2 : p.2.2.2.1 with
        | true =>
          rw [if_neg (by unfold waitB; rw [h1, h2]; simp), List.append_nil] at hst
          have HST := Lib.hid hst
          rw [h2] at x3
          clear hst h2
          go_wp2
          go_roundw
          case rel => exact ⟨k + 1, by omega, by go_num, by rw [HST.out]; exact HO.out, HB.out⟩
          case measure => simp [intOf]; omega
        | false =>
          rw [if_pos (by unfold waitB; rw [h1, h2]; simp)] at hst
          have HST := Lib.hid hst
          rw [h2] at x3
          clear hst h2
          go_wp2_with (
            at_builtin
            refine wpList_appendO _ intTy encI_one rfl (.tmp 44) (.tmp 53) rfl w.heap.size _ _ [p.2.2.1] rfl (HO.out.alloc (.cells #[.int .i64 p.2.2.1] 3)) (some ⟨wr.heap.size, 0, none⟩) 1 rfl (Rd.one encI wr 3 p.2.2.1) (by have := hlen.out; simp only [maxLen, List.length_singleton]; omega) (by have := hlen.out; simp only [List.length_singleton]; omega) (by have := HB.out.size; simp; omega) ?_
            intro v1 w1 o1 hg1 hloc1
            have B1 := Lib.hid (below_own (HB.out.alloc HB.out.size (.cells #[.int .i64 p.2.2.1] 3)) (HO.out.alloc (.cells #[.int .i64 p.2.2.1] 3)) (Nat.le_refl _) hg1 (by have := HB.out.size; simp; omega))
            have O1 := Lib.hid o1
            clear hg1 hloc1 o1
            )
          go_roundw
          case rel => exact ⟨k + 1, by omega, by go_num, by rw [HST.out]; exact O1.out, B1.out⟩
          case measure => simp [intOf]; omega
    · obtain rfl : k = pn := by omega
      rw [List.take_of_length_le (by rw [PN.out]; exact Nat.le_refl _)] at ho
      obtain ⟨Ag, gc, ev, _, hrd, _⟩ := ho.slice
      subst ev
      have HRD := Lib.hid hrd
      have HB := Lib.hid hB
      clear ho hrd hB
      go_wp2
      go_ret2
      rw [E1.out]
      exact ⟨Ag, gc, rfl, HRD.out, HB.out⟩
set_option maxRecDepth 20000 in
set_option maxHeartbeats 16000000 in
theorem rdrop_any (base R n i c : Nat) (most : Int) (A : Option Addr) (P : List RP) (turns wait : Int) (L : Nat → List Pl) (owner : Int) (w : World) (h : RS base w R n i most A c P turns L) (hG : Good n L) (hI : Inv n i L wait) (hwm : wait ≤ 1000000) (hn : n ≤ 4096) (hi : i ≤ 3000000000000) :
    Calls Try.prog 43 #[.pointer (some ⟨R, 0, none⟩), .int .i64 owner] w fun e w' => ∃ Ag gc, e = .returned (.slice Ag (dropN n owner n L wait).2.2.length gc) ∧ Rd encI w' Ag (dropN n owner n L wait).2.2 ∧ ROk base w w' R n i most A (dropN n owner n L wait).1 := by
  have HG := Lib.hid hG
  have HI := Lib.hid hI
  have H := Lib.hid h
  clear h hG hI
  go_enter Try.func43, Try.ntmps43
  go_wp2_with fail
  go_loopw [5, 6] (fun t5 t6 wr => ∃ (k : Nat) (A2 : Option Addr) (c2 : Nat) (P2 : List RP) (tu : Int) (Aa : Option Addr) (an ac : Nat), k ≤ n ∧ t6 = .int .i64 (k : Int) ∧ t5 = .slice Aa an ac ∧ Hid (RS base wr R n i most A2 c2 P2 tu (dropN n owner k L wait).1) ∧ Hid (KO wr Aa ac (dropN n owner k L wait).2.2 ∧ ∀ ad, Aa = some ad → w.heap.size ≤ ad.block) ∧ Hid ((dropN n owner k L wait).2.2.length = an) ∧ Hid (Chg (fun k _ => RFp R A k) w wr) ∧ Hid (∀ k, RFp R A2 k → RFp R A k ∨ w.heap.size ≤ k)) (fun _ t6 _ => n - (intOf t6).toNat)
  case atStart => exact ⟨0, A, c, P, turns, none, 0, 0, Nat.zero_le _, rfl, rfl, H, Lib.hid ⟨⟨GSl.nil_, .inl rfl⟩, fun _ h => by cases h⟩, Lib.hid rfl, Lib.hid (Chg.refl _ _), Lib.hid fun _ h => .inl h⟩
  case round =>
    obtain ⟨k, A2, c2, P2, tu, Aa, an, ac, hk, rfl, rfl, hR, hK, han, hC, hF⟩ := hrel
    have c0 : wr.cell? ⟨R, 0, none⟩ = some (.int .i64 (n : Int)) := hR.out.s.blk.cell 0
    by_cases hlk : k < n
    · have hlk' : (k : Int) < (n : Int) := by omega
      obtain ⟨d1, d2⟩ := drop_inv (o := owner) HI.out k
      have dg := drop_good (wait := wait) (owner := owner) HG.out k
      have d4 := (drop_inv (o := owner) HI.out (k + 1)).2
      have d5 := (drop_inv (o := owner) HI.out (k + 1)).1.waits.1
      have e1 : dropN n owner (k + 1) L wait = ((relT n (dropN n owner k L wait).1 (dropN n owner k L wait).2.1 (k : Int) owner).1, (relT n (dropN n owner k L wait).1 (dropN n owner k L wait).2.1 (k : Int) owner).2.1, (dropN n owner k L wait).2.2 ++ (relT n (dropN n owner k L wait).1 (dropN n owner k L wait).2.1 (k : Int) owner).2.2.1) := rfl
      have E1 := Lib.hid e1
      have d45 : (dropN n owner (k + 1) L wait).2.2.length ≤ 1000000 := by omega
      rw [e1] at d45
      dsimp only at d45
      rw [List.length_append] at d45
      obtain ⟨D, hD⟩ : ∃ D, D = dropN n owner k L wait := ⟨_, rfl⟩
      rw [← hD] at hR hK han E1 dg d45
      obtain ⟨pn, hpn⟩ : ∃ pn, pn = P2.length := ⟨_, rfl⟩
      have hpb : pn ≤ 3000000000000 := by rw [hpn]; exact Nat.le_trans hR.out.len hi
      have cc2 : wr.cell? ⟨R, 2, none⟩ = some (.slice A2 pn c2) := by rw [hpn]; exact hR.out.s.blk.cell 2
      have gf := Lib.hid (rfind_any R pn c2 A2 P2 (k : Int) owner wr hpn.symm (by omega) cc2 hR.out.s.gsl.rds)
      obtain ⟨W1, _⟩ := rel_found (wait := D.2.1) (o := owner) hR.out.sim dg hlk
      have W1 := Lib.hid W1
      have gr := rrel_any base R n i c2 most A2 P2 tu D.2.1 D.1 (k : Int) owner wr hR.out dg hn hi
      obtain ⟨Q, hQ⟩ : ∃ Q, Q = relT n D.1 D.2.1 (k : Int) owner := ⟨_, rfl⟩
      rw [← hQ] at gr E1 W1 d45
      obtain ⟨gn, hgn⟩ : ∃ gn, gn = Q.2.2.1.length := ⟨_, rfl⟩
      rw [← hgn] at gr d45
      rw [han.out] at d45
      have GR := Lib.hid gr
      have HGN := Lib.hid hgn
      clear e1 d1 d2 d4 d5 dg hD hpn gr hQ hgn
      by_cases hf : 0 ≤ idxI P2 (ownB (k : Int) owner)
      · obtain ⟨fi, hfi⟩ : ∃ fi, fi = idxI P2 (ownB (k : Int) owner) := ⟨_, rfl⟩
        rw [← hfi] at gf hf
        clear hfi W1
        go_wp2_with fail
        refine gf.out.mono ?_
        rintro e w' ⟨rfl, rfl⟩
        go_wp2_with fail
        refine GR.out.mono ?_
        rintro e w5 ⟨Ag, gc, rfl, hKg, A3, c3, P3, tu3, hR3, hC3, hF3⟩
        have R3 := Lib.hid hR3
        have KG := Lib.hid hKg
        have C3 := Lib.hid (hC.out.trans hC3 fun k i hk hf => (hF.out k hf).elim id fun h => absurd hk (Nat.not_lt.2 h))
        have F3 := Lib.hid (show ∀ k, RFp R A3 k → RFp R A k ∨ w.heap.size ≤ k from fun k hk => (hF3 k hk).elim (hF.out k) fun h => .inr (Nat.le_trans hC.out.size h))
        have K3 := Lib.hid (hK.out.1.chg hC3 fun ad e _ hf => by
          obtain ⟨cs, hb⟩ := hK.out.1.blk e
          obtain ⟨_, t2, cs2, hb2, hty⟩ := hR.out.s.typ hf
          rcases hty with rfl | rfl
          · exact blk_type_ne hb hb2 (by decide) rfl
          · exact blk_type_ne hb hb2 (by decide) rfl)
        have KB := Lib.hid hK.out.2
        clear hR3 hKg hC3 hF3 hR hK hC hF GR gf c0 cc2
        go_wp2_with (
          at_builtin
          refine wpList_appendG intTy (by decide) enc1_len enc1_one rfl (.tmp 29) (.tmp 30) rfl Aa ac D.2.2 (by rw [han.out]; rfl) K3.out.1 Ag gc Q.2.2.1 (by rw [← HGN.out]; rfl) KG.out.1.rds (by rw [han.out, ← HGN.out]; simp only [maxLen]; omega) (by rw [han.out, ← HGN.out]; omega) ?_
          intro A6 c6 w8 h8 k8 q8
          have hlen8 : (D.2.2 ++ Q.2.2.1).length = an + gn := by rw [List.length_append, han.out, ← HGN.out]
          rw [hlen8]
          have HL8 := Lib.hid hlen8
          have R8 := Lib.hid (show RS base w8 R n i most A3 c3 P3 tu3 Q.1 from ⟨R3.out.s.keep k8 fun k hk i hf => by
            obtain ⟨ad, ea, e⟩ := slFp_blk hf
            obtain ⟨cs, hb⟩ := K3.out.blk ea
            obtain ⟨_, t2, cs2, hb2, hty⟩ := R3.out.s.typ hk
            rcases hty with rfl | rfl
            · exact blk_type_ne hb hb2 (by decide) e
            · exact blk_type_ne hb hb2 (by decide) e, R3.out.sim, R3.out.len, R3.out.tle⟩)
          have K8 := Lib.hid (show KO w8 A6 c6 (D.2.2 ++ Q.2.2.1) ∧ ∀ ad, A6 = some ad → w.heap.size ≤ ad.block from ⟨⟨h8, by
            rcases q8 with ⟨e1, _⟩ | ⟨g2, e1, _⟩
            · rw [e1]; exact K3.out.2
            · exact .inr ⟨g2, e1⟩⟩, fun ad e => by
            rcases q8 with ⟨e1, _⟩ | ⟨g2, e1, hg2⟩
            · rw [e1] at e; exact KB.out ad e
            · rw [e1] at e; cases e
              have := C3.out.size
              show w.heap.size ≤ g2
              omega⟩)
          have C8 := Lib.hid (C3.out.trans k8 fun k _ hk hf => by
            obtain ⟨ad, ea, e⟩ := slFp_blk hf
            have := KB.out ad ea
            omega)
          clear h8 k8 q8 hlen8
          )
        go_roundw
        case rel => exact ⟨k + 1, A3, c3, P3, tu3, A6, an + gn, c6, by omega, by go_num, rfl, by rw [E1.out]; exact R8, by rw [E1.out]; exact K8, by rw [E1.out]; exact HL8, C8, F3⟩
        case measure => simp [intOf]; omega
      · have hno := W1.out hf
        have hneg := (idxI_neg hf).1
        rw [hneg] at gf
        have e2 : dropN n owner (k + 1) L wait = (D.1, D.2.1, D.2.2) := by
          rw [E1.out, hno]
          dsimp only
          rw [List.append_nil]
        have E2 := Lib.hid e2
        clear hf hno hneg e2 GR W1 E1
        go_wp2_with fail
        refine gf.out.mono ?_
        rintro e w' ⟨rfl, rfl⟩
        go_wp2
        go_roundw
        case rel => exact ⟨k + 1, A2, c2, P2, tu, Aa, an, ac, by omega, by go_num, rfl, by rw [E2.out]; exact hR, by rw [E2.out]; exact hK, by rw [E2.out]; exact han, hC, hF⟩
        case measure => simp [intOf]; omega
    · obtain rfl : k = n := by omega
      go_wp2
      go_ret
      exact ⟨Aa, ac, by rw [han.out]; rfl, hK.out.1.kept.1, A2, c2, P2, tu, hR.out, hC.out, hF.out⟩
end Go.Proofs.Ytkjbjfjgnponfaa
