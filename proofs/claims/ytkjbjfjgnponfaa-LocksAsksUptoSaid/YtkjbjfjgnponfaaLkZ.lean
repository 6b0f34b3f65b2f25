/- The document's table of locks: Acquire, by contract. -/
import Derived.Test.YtkjbjfjgnponfaaLkY
namespace Go.Proofs.Ytkjbjfjgnponfaa
open Go.RowKit
set_option linter.unusedSimpArgs false
set_option linter.unusedVariables false
/-- the table and what it stands for -/
structure RS (base : Nat) (wr : World) (R n i : Nat) (most : Int) (A : Option Addr) (c : Nat) (P : List RP) (turns : Int) (L : Nat → List Pl) : Prop where
  s : RefS base wr R n most A c P turns
  sim : Sim n L P turns
  len : P.length ≤ i
  tle : turns + (rowSum n L : Int) ≤ (i : Int)
def ROk (base : Nat) (w w' : World) (R n i : Nat) (most : Int) (A : Option Addr) (L : Nat → List Pl) : Prop :=
  ∃ (A' : Option Addr) (c' : Nat) (P' : List RP) (turns' : Int), RS base w' R n i most A' c' P' turns' L ∧ Chg (fun k _ => RFp R A k) w w' ∧ (∀ k, RFp R A' k → RFp R A k ∨ w.heap.size ≤ k)
section
variable {base R n i j c : Nat} {wr wr' : World} {most turns : Int} {A : Option Addr} {P : List RP} {L : Nat → List Pl}
theorem RS.below (h : RS base wr R n i most A c P turns L) (hB : Below wr.heap.size wr wr') : RS base wr' R n i most A c P turns L := ⟨h.s.below hB, h.sim, h.len, h.tle⟩
theorem RS.mono (h : RS base wr R n i most A c P turns L) (hij : i ≤ j) : RS base wr R n j most A c P turns L := ⟨h.s, h.sim, Nat.le_trans h.len hij, by have := h.tle; omega⟩
theorem RS.ok (h : RS base wr R n i most A c P turns L) (hB : Below wr.heap.size wr wr') (hij : i ≤ j) : ROk base wr wr' R n j most A L :=
  ⟨A, c, P, turns, (h.below hB).mono hij, Chg.of_below _ hB, fun _ h => .inl h⟩
/-- one place more -/
theorem RefS.app {w2 : World} {A' : Option Addr} {c' : Nat} {m : List RP} (h : RefS base wr R n most A c P turns) (h4 : GSl encR 5 104 w2 A' c' (P ++ m)) (k4 : Chg (slFp 5 A P.length c) wr w2) (q4 : (A' = A ∧ c' = c) ∨ ∃ g, A' = some ⟨g, 0, none⟩ ∧ wr.heap.size ≤ g) :
    RefS base (w2.setCell ⟨R, 2, none⟩ (.slice A' (P ++ m).length c')) R n most A' c' (P ++ m) turns ∧ Chg (fun k _ => RFp R A k) wr (w2.setCell ⟨R, 2, none⟩ (.slice A' (P ++ m).length c')) ∧
      (∀ k, RFp R A' k → RFp R A k ∨ wr.heap.size ≤ k) ∧ w2.cell? ⟨R, 2, none⟩ = some (.slice A P.length c) ∧ w2.frozen? ⟨R, 2, none⟩ = false ∧ Chg (fun k _ => RFp R A k) wr w2 := by
  have hk : Chg (fun k _ => RFp R A k) wr w2 := k4.mono fun k j _ hf => by
    obtain ⟨o, e, _⟩ := hf
    exact .inr ⟨_, e, rfl⟩
  have hb2 := k4.blk h.blk fun j hf => by
    obtain ⟨o, e, _⟩ := hf
    rcases h.gsl with ⟨h2, _⟩ | ⟨g2, o2, cs2, h2, _, _, h3, _⟩
    · rw [h2] at e; cases e
    · rw [h2] at e; cases e
      exact blk_type_ne h3 h.blk (by decide) rfl
  have hset : Chg (fun k _ => k = R) w2 (w2.setCell ⟨R, 2, none⟩ (.slice A' (P ++ m).length c')) := Chg.setCell (fun k _ => k = R) _ (show R = R from rfl) _
  have hA'R : ∀ g o, A' = some ⟨g, o, none⟩ → g ≠ R := fun g o e => by
    rcases h4 with ⟨h2, _⟩ | ⟨g2, o2, cs2, h2, _, _, h3, _⟩
    · rw [h2] at e; cases e
    · rw [h2] at e; cases e
      exact blk_type_ne h3 hb2 (by decide)
  refine ⟨⟨hb2.set_ 2 _, h4.chg hset encR_len fun g i hs e => ?_, ?_, h.hR⟩, hk.trans hset fun k i _ e => .inl e, fun k hk2 => ?_, hb2.cell 2, hb2.frozen 2, hk⟩
  · obtain ⟨o, e2, _⟩ := hs
    exact hA'R g o e2 e
  · rcases q4 with ⟨e1, _⟩ | ⟨g, e1, hg⟩
    · rw [e1]; exact h.loc
    · exact .inr ⟨g, e1, by have := h.hR; have := h.blk.lt; omega⟩
  · rcases hk2 with rfl | ⟨a, e, rfl⟩
    · exact .inl (.inl rfl)
    · rcases q4 with ⟨e1, _⟩ | ⟨g, e1, hg⟩
      · rw [e1] at e; exact .inl (.inr ⟨a, e, rfl⟩)
      · rw [e1] at e; cases e; exact .inr hg
/-- the number of turns is written -/
theorem RefS.turn (h : RefS base wr R n most A c P turns) (z : Int) : RefS base (wr.setCell ⟨R, 3, none⟩ (.int .i64 z)) R n most A c P z := by
  have hset : Chg (fun k _ => k = R) wr (wr.setCell ⟨R, 3, none⟩ (.int .i64 z)) := Chg.setCell (fun k _ => k = R) _ (show R = R from rfl) _
  refine ⟨h.blk.set_ 3 _, h.gsl.chg hset encR_len fun g i hs e => ?_, h.loc, h.hR⟩
  obtain ⟨o, e2, _⟩ := hs
  rcases h.gsl with ⟨h2, _⟩ | ⟨g2, o2, cs2, h2, _, _, h3, _⟩
  · rw [h2] at e2; cases e2
  · rw [h2] at e2; cases e2
    exact blk_type_ne h3 h.blk (by decide) e
end
theorem Blk.range {w : World} {g t : Nat} {cs : List Value} (h : Blk w g t cs.toArray) : w.rangeAt g 0 cs := fun j v hv => by
  rw [h.cell]
  simpa using hv
/-- the ways of Acquire -/
theorem acq_ways {n x : Nat} {L : Nat → List Pl} {P : List RP} {turns wait most mode owner : Int} (h : Sim n L P turns) (hg : Good n L) (hx : x < n) (hm : mode = 1 ∨ mode = 2) :
    (0 ≤ idxI P (ownB (x : Int) owner) → acqT n L wait most (x : Int) mode owner = (L, wait, false, 91)) ∧
    (¬ 0 ≤ idxI P (ownB (x : Int) owner) → goesR P (x : Int) mode = true → idxI P (waitB (x : Int)) < 0 → acqT n L wait most (x : Int) mode owner = (upd (upd L (x * 2) (L (x * 2) ++ [(owner, mode)])) (x * 2 + 1) (L (x * 2 + 1)), wait, true, 0)) ∧
    (¬ 0 ≤ idxI P (ownB (x : Int) owner) → ¬ (goesR P (x : Int) mode = true ∧ idxI P (waitB (x : Int)) < 0) → most ≤ wait → acqT n L wait most (x : Int) mode owner = (L, wait, false, 4)) ∧
    (¬ 0 ≤ idxI P (ownB (x : Int) owner) → ¬ (goesR P (x : Int) mode = true ∧ idxI P (waitB (x : Int)) < 0) → ¬ most ≤ wait → acqT n L wait most (x : Int) mode owner = (upd (upd L (x * 2) (L (x * 2))) (x * 2 + 1) (L (x * 2 + 1) ++ [(owner, mode)]), wait + 1, false, 0)) := by
  have hmem := h.mem hx owner
  have hfound : (0 ≤ findI (L (x * 2)) owner ∨ 0 ≤ findI (L (x * 2 + 1)) owner) ↔ 0 ≤ idxI P (ownB (x : Int) owner) := by
    rw [← hmem]
    exact or_congr findI_mem findI_mem
  have hgo := h.goes hg hx hm
  have hfirst : idxI P (waitB (x : Int)) < 0 ↔ L (x * 2 + 1) = [] := by
    constructor
    · intro hf
      cases hr : L (x * 2 + 1) with
      | nil => rfl
      | cons a r =>
        obtain ⟨i, p, q, e, _⟩ := h.first_some hx hr
        rw [e] at hf
        omega
    · intro hr
      rw [h.first_none hx hr]
      omega
  have hid : upd (upd L (x * 2) (L (x * 2))) (x * 2 + 1) (L (x * 2 + 1)) = L := upd_id2 L _ _
  have hcond : (goesR P (x : Int) mode = true ∧ idxI P (waitB (x : Int)) < 0) ↔ (L (x * 2 + 1) = [] ∧ goesL (L (x * 2)) mode = true) := by
    rw [hgo, hfirst]
    exact And.comm
  refine ⟨fun h1 => ?_, fun h1 h2 h3 => ?_, fun h1 h2 h3 => ?_, fun h1 h2 h3 => ?_⟩
  · rw [acq_at hx hm (q := (L (x * 2), L (x * 2 + 1), 0, false, 91)) (by unfold acqL; rw [if_pos (hfound.2 h1)])]
    dsimp only
    rw [hid]
    simp
  · rw [acq_at hx hm (q := (L (x * 2) ++ [(owner, mode)], L (x * 2 + 1), 0, true, 0)) (by unfold acqL; rw [if_neg (fun h => h1 (hfound.1 h)), if_pos (hcond.1 ⟨h2, h3⟩)])]
    simp
  · rw [acq_at hx hm (q := (L (x * 2), L (x * 2 + 1), 0, false, 4)) (by unfold acqL; rw [if_neg (fun h => h1 (hfound.1 h)), if_neg (fun h => h2 (hcond.2 h)), if_pos h3])]
    dsimp only
    rw [hid]
    simp
  · rw [acq_at hx hm (q := (L (x * 2), L (x * 2 + 1) ++ [(owner, mode)], 1, false, 0)) (by unfold acqL; rw [if_neg (fun h => h1 (hfound.1 h)), if_neg (fun h => h2 (hcond.2 h)), if_neg h3])]
    simp
set_option maxRecDepth 20000 in
set_option maxHeartbeats 16000000 in
theorem racq_any (base R n i c : Nat) (most : Int) (A : Option Addr) (P : List RP) (turns wait : Int) (L : Nat → List Pl) (ex mode owner : Int) (w : World) (h : RS base w R n i most A c P turns L) (hG : Good n L) (hwt : wait = (rowSum n L : Int)) (hn : n ≤ 4096) (hi : i ≤ 3000000000000) :
    Calls Try.prog 40 #[.pointer (some ⟨R, 0, none⟩), .int .i64 ex, .int .i64 mode, .int .i64 owner] w fun e w' => e = .returned (.tuple #[.bool (acqT n L wait most ex mode owner).2.2.1, .int .i64 (acqT n L wait most ex mode owner).2.2.2]) ∧ ROk base w w' R n (i + 1) most A (acqT n L wait most ex mode owner).1 := by
  have H := Lib.hid h
  have HG := Lib.hid hG
  by_cases hm : mode ≠ 1 ∧ mode ≠ 2
  · have m1 : (mode != 1) = true := by rw [bne_iff_ne]; exact hm.1
    have m2 : (mode != 2) = true := by rw [bne_iff_ne]; exact hm.2
    have e1 := Lib.hid (show acqT n L wait most ex mode owner = (L, wait, false, 1) from if_pos hm)
    clear h hG hwt hm
    go_enter Try.func40, Try.ntmps40
    go_wp2
    go_ret2
    rw [e1.out]
    exact ⟨rfl, H.out.ok (Below.refl _ _) (Nat.le_succ i)⟩
  have hmm : mode = 1 ∨ mode = 2 := by
    by_cases h1 : mode = 1
    · exact .inl h1
    · exact .inr (Classical.byContradiction fun h2 => hm ⟨h1, h2⟩)
  have HMM := Lib.hid hmm
  have HM := Lib.hid hm
  obtain ⟨kb, hkb⟩ : ∃ kb, kb = (decide (0 ≤ ex) && decide (ex < (n : Int))) := ⟨_, rfl⟩
  have gt := there_any R n ex w (h.s.blk.cell 0)
  rw [← hkb] at gt
  have GT := Lib.hid gt
  have HKB := Lib.hid hkb
  have HWT := Lib.hid hwt
  obtain ⟨pn, hpn⟩ : ∃ pn, pn = P.length := ⟨_, rfl⟩
  have PN := Lib.hid hpn.symm
  have hpb : pn ≤ 3000000000000 := by rw [hpn]; exact Nat.le_trans h.len hi
  have c2 : w.cell? ⟨R, 2, none⟩ = some (.slice A pn c) := by rw [hpn]; exact h.s.blk.cell 2
  have C2 := Lib.hid c2
  clear h hG hwt gt hkb hm hmm hpn c2
  go_enter Try.func40, Try.ntmps40
  go_upto_region 1 with fail
  go_cut [18] (fun t18 wx => t18 = .bool false ∧ w = wx)
  case first =>
    rcases HMM.out with e | e
    · subst e
      go_wp2
      go_meet
      exact ⟨rfl, rfl⟩
    · subst e
      go_wp2
      go_meet
      exact ⟨rfl, rfl⟩
  obtain ⟨rfl, rfl⟩ := hcut
  go_wp2_with fail
  refine GT.out.mono ?_
  rintro e w' ⟨rfl, rfl⟩
  clear GT
  by_cases hx : 0 ≤ ex ∧ ex < (n : Int)
  case neg =>
    obtain rfl : kb = false := by
      rw [HKB.out, Bool.and_eq_false_iff]
      by_cases h1 : 0 ≤ ex
      · exact .inr (decide_eq_false fun h2 => hx ⟨h1, h2⟩)
      · exact .inl (decide_eq_false h1)
    have e1 := Lib.hid (show acqT n L wait most ex mode owner = (L, wait, false, 2) from by unfold acqT; rw [if_neg HM.out, if_pos hx])
    clear hx
    go_wp2
    go_ret2
    rw [e1.out]
    exact ⟨rfl, H.out.ok (Below.refl _ _) (Nat.le_succ i)⟩
  obtain rfl : kb = true := by rw [HKB.out, decide_eq_true hx.1, decide_eq_true hx.2]; rfl
  obtain ⟨x, hxe⟩ : ∃ x : Nat, ex = (x : Int) := ⟨ex.toNat, by omega⟩
  subst hxe
  have hxn : x < n := by omega
  obtain ⟨W1, W2, W3, W4⟩ := acq_ways (wait := wait) (most := most) (owner := owner) H.out.sim HG.out hxn HMM.out
  have V1 := Lib.hid W1
  have V2 := Lib.hid W2
  have V3 := Lib.hid W3
  have V4 := Lib.hid W4
  obtain ⟨fi, hfi⟩ : ∃ fi, fi = idxI P (ownB (x : Int) owner) := ⟨_, rfl⟩
  have gf := rfind_any R pn c A P (x : Int) owner w PN.out (by omega) C2.out H.out.s.gsl.rds
  rw [← hfi] at gf
  rw [← hfi] at V1 V2 V3 V4
  have GF := Lib.hid gf
  have HFI := Lib.hid hfi
  clear W1 W2 W3 W4 gf hfi hx
  go_wp2_with fail
  refine GF.out.mono ?_
  rintro e w' ⟨rfl, rfl⟩
  clear GF
  by_cases hf : 0 ≤ fi
  · have e1 := Lib.hid (V1.out hf)
    go_wp2
    go_ret2
    rw [e1.out]
    exact ⟨rfl, H.out.ok (Below.refl _ _) (Nat.le_succ i)⟩
  have B1 := Lib.hid ((Below.refl w.heap.size w).alloc (Nat.le_refl _) (.cells #[.int .i64 (x : Int), .int .i64 mode, .int .i64 owner, .bool false, .int .i64 0] 104))
  have hRlt : R < w.heap.size := H.out.s.blk.lt
  have gg := rgoes_any R pn c A P (x : Int) mode (w.alloc (.cells #[.int .i64 (x : Int), .int .i64 mode, .int .i64 owner, .bool false, .int .i64 0] 104)) PN.out (by omega) ((B1.out.cell (p := ⟨R, 2, none⟩) hRlt).trans C2.out) (by simp; omega) (H.out.below B1.out).s.gsl.rds
  obtain ⟨gb, hgb⟩ : ∃ gb, gb = goesR P (x : Int) mode := ⟨_, rfl⟩
  rw [← hgb] at gg
  rw [← hgb] at V2 V3 V4
  have GG := Lib.hid gg
  have PB1 := Lib.hid (Blk.new w 104 #[.int .i64 (x : Int), .int .i64 mode, .int .i64 owner, .bool false, .int .i64 0])
  obtain ⟨pb, hpbe⟩ : ∃ pb, pb = w.heap.size := ⟨_, rfl⟩
  rw [← hpbe] at PB1
  have PNE0 := Lib.hid (show ∀ (g o : Nat), A = some ⟨g, o, none⟩ → g ≠ pb from fun g o e => by
    have := (H.out.s.lt (.inr ⟨_, e, rfl⟩)).2
    have e2 : (⟨g, o, none⟩ : Addr).block = g := rfl
    omega)
  have PRN := Lib.hid (show pb ≠ R by omega)
  have HPB := Lib.hid hpbe
  clear gg hgb
  go_wp2_with fail
  refine GG.out.mono ?_
  rintro e w2 ⟨rfl, hB2⟩
  have H2 := Lib.hid ((H.out.below B1.out).below hB2)
  have B2 := Lib.hid (B1.out.trans (hB2.mono B1.out.size))
  have PB2 := Lib.hid (PB1.out.below hB2 PB1.out.lt)
  have C22 : w2.cell? ⟨R, 2, none⟩ = some (.slice A pn c) := (B2.out.cell (p := ⟨R, 2, none⟩) hRlt).trans C2.out
  obtain ⟨ff, hff⟩ : ∃ ff, ff = idxI P (waitB (x : Int)) := ⟨_, rfl⟩
  have gq := rfirst_any R pn c A P (x : Int) w2 PN.out (by omega) C22 H2.out.s.gsl.rds
  rw [← hff] at gq
  rw [← hff] at V2 V3 V4
  have GQ := Lib.hid gq
  have c3 : w2.cell? ⟨R, 3, none⟩ = some (.int .i64 turns) := H2.out.s.blk.cell 3
  have f3 := H2.out.s.blk.frozen 3
  have p3 : w2.cell? ⟨pb, 3, none⟩ = some (.bool false) := PB2.out.cell 3
  have p4 : w2.cell? ⟨pb, 4, none⟩ = some (.int .i64 0) := PB2.out.cell 4
  have pf3 := PB2.out.frozen 3
  have pf4 := PB2.out.frozen 4
  have htb : 0 ≤ turns ∧ turns + 1 ≤ 3000000000001 := by have := H.out.tle; have := H.out.sim.t0; omega
  clear hB2 GG hff gq B1 PB1
  go_upto_region 10 with fail
  rw [← hpbe]
  clear hpbe
  go_cut [43] (fun t43 wx => t43 = .bool (gb && decide (ff < 0)) ∧ w2 = wx)
  case first =>
    cases gb with
    | false =>
      go_wp2
      go_meet
      exact ⟨rfl, rfl⟩
    | true =>
      go_wp2_with fail
      refine GQ.out.mono ?_
      rintro e w' ⟨rfl, rfl⟩
      go_wp2
      go_meet
      exact ⟨rfl, rfl⟩
  obtain ⟨rfl, rfl⟩ := hcut
  cases hcb : (gb && decide (ff < 0)) with
  | true =>
    have e1 := Lib.hid (V2.out hf (by rw [Bool.and_eq_true] at hcb; exact hcb.1) (by rw [Bool.and_eq_true, decide_eq_true_iff] at hcb; exact hcb.2))
    clear hcb GQ V1 V2 V3 V4
    have hne : R ≠ pb := fun e => PRN.out e.symm
    obtain ⟨W, hW⟩ : ∃ W, W = ((w2.setCell ⟨R, 3, none⟩ (.int .i64 (turns + 1))).setCell ⟨pb, 3, none⟩ (.bool true)).setCell ⟨pb, 4, none⟩ (.int .i64 (turns + 1)) := ⟨_, rfl⟩
    have PRN2 := PRN.out
    have cset : Chg (fun k _ => k = pb) (w2.setCell ⟨R, 3, none⟩ (.int .i64 (turns + 1))) W := by
      rw [hW]
      exact (Chg.setCell (fun k _ => k = pb) _ (show pb = pb from rfl) _).trans (Chg.setCell (fun k _ => k = pb) _ (show pb = pb from rfl) _) fun _ _ _ h => h
    have RW := Lib.hid (show RefS base W R n most A c P (turns + 1) from (H2.out.s.turn (turns + 1)).keep cset fun k hk _ e => by
      have := (H.out.s.lt hk).2
      have h9 := HPB.out
      omega)
    have CW := Lib.hid (show Chg (fun k _ => RFp R A k) w W from ((Chg.of_below (fun k _ => RFp R A k) B2.out).trans (Chg.setCell (fun k _ => RFp R A k) _ (show RFp R A R from .inl rfl) _) fun _ _ _ h => h).trans cset fun k _ hk e => by
      have h9 := HPB.out
      omega)
    have hsz : w.heap.size ≤ W.heap.size := CW.out.size
    have PB := Lib.hid (show Blk W pb 104 #[.int .i64 (x : Int), .int .i64 mode, .int .i64 owner, .bool true, .int .i64 (turns + 1)] from by
      rw [hW]
      exact ((PB2.out.far (p := ⟨R, 3, none⟩) PRN2 _).set_ 3 (.bool true)).set_ 4 (.int .i64 (turns + 1)))
    have PNE := Lib.hid (show ∀ (o : Nat), A = some ⟨pb, o, none⟩ → False from fun o e => PNE0.out pb o e rfl)
    have HSZ := Lib.hid hsz
    go_wp2_with fail
    rw [← hW]
    clear hW cset c3 f3 p3 p4 pf3 pf4 C22 hsz
    have Ra := Lib.hid (RW.out.below (((Below.refl W.heap.size W).alloc (Nat.le_refl _) (.cells #[.int .i64 ((x : Int)), .int .i64 (mode), .int .i64 (owner), .bool (true), .int .i64 (turns + 1)] 104)).drew))
    have Rn := Lib.hid (show RdS encR 5 (W.alloc (.cells #[.int .i64 ((x : Int)), .int .i64 (mode), .int .i64 (owner), .bool (true), .int .i64 (turns + 1)] 104)).drew (some ⟨W.heap.size, 0, none⟩) [((x : Int), mode, owner, true, turns + 1)] from RdS.new1 encR 5 W 104 ((x : Int), mode, owner, true, turns + 1))
    have PBa := Lib.hid (show Blk (W.alloc (.cells #[.int .i64 ((x : Int)), .int .i64 (mode), .int .i64 (owner), .bool (true), .int .i64 (turns + 1)] 104)).drew pb 104 #[.int .i64 ((x : Int)), .int .i64 (mode), .int .i64 (owner), .bool (true), .int .i64 (turns + 1)] from PB.out.alloc _)
    have cq0 : W.drew.cell? ⟨R, 2, none⟩ = some (.slice A pn c) := by rw [← PN.out]; exact RW.out.blk.cell 2
    have cq1 : (W.alloc (.cells #[.int .i64 ((x : Int)), .int .i64 (mode), .int .i64 (owner), .bool (true), .int .i64 (turns + 1)] 104)).drew.cell? ⟨R, 2, none⟩ = some (.slice A pn c) := by rw [← PN.out]; exact Ra.out.blk.cell 2
    have S0 := Lib.hid (show W.drew.rangeAt pb 0 [.int .i64 ((x : Int)), .int .i64 (mode), .int .i64 (owner), .bool (true), .int .i64 (turns + 1)] from Blk.range (cs := [.int .i64 ((x : Int)), .int .i64 (mode), .int .i64 (owner), .bool (true), .int .i64 (turns + 1)]) PB.out)
    have Sa := Lib.hid (show (W.alloc (.cells #[.int .i64 ((x : Int)), .int .i64 (mode), .int .i64 (owner), .bool (true), .int .i64 (turns + 1)] 104)).drew.rangeAt pb 0 [.int .i64 ((x : Int)), .int .i64 (mode), .int .i64 (owner), .bool (true), .int .i64 (turns + 1)] from Blk.range (cs := [.int .i64 ((x : Int)), .int .i64 (mode), .int .i64 (owner), .bool (true), .int .i64 (turns + 1)]) PBa.out)
    refine wp_region_noPanic ?_
    refine wp_region_held_drew (S := fun w' => w'.rangeAt pb 0 [.int .i64 ((x : Int)), .int .i64 (mode), .int .i64 (owner), .bool (true), .int .i64 (turns + 1)]) (by kernel_rfl) (S0.out) (fun hHeld => ?_)
    refine take_on (i := 0) (some 57) (v := ?vr7) rfl rfl (by kernel_rfl) (by kernel_rfl) (by kernel_rfl) (fun _ _ _ h => h) (by rfl) ?hyr7 (by with_reducible exact hHeld) ?restr7
    case hyr7 => (intro wS hSw; (try dsimp only at hSw); go_simp; try with_reducible rfl)
    try simp only [Act.put, List.setIfInBounds_toArray, List.set_cons_zero, List.set_cons_succ]
    refine take_on (i := 1) (some 58) (v := ?vr8) rfl rfl (by kernel_rfl) (by kernel_rfl) (by kernel_rfl) (fun _ _ _ h => h) (by rfl) ?hyr8 (by with_reducible exact hHeld) ?restr8
    case hyr8 => (intro wS hSw; (try dsimp only at hSw); go_simp; try with_reducible rfl)
    try simp only [Act.put, List.setIfInBounds_toArray, List.set_cons_zero, List.set_cons_succ]
    refine take_on (i := 2) (some 59) (v := ?vr9) rfl rfl (by kernel_rfl) (by kernel_rfl) (by kernel_rfl) (fun _ _ _ h => h) (by rfl) ?hyr9 (by with_reducible exact hHeld) ?restr9
    case hyr9 => (intro wS hSw; (try dsimp only at hSw); go_simp; try with_reducible rfl)
    try simp only [Act.put, List.setIfInBounds_toArray, List.set_cons_zero, List.set_cons_succ]
    refine take_on (i := 3) (some 60) (v := ?vr10) rfl rfl (by kernel_rfl) (by kernel_rfl) (by kernel_rfl) (fun _ _ _ h => h) (by rfl) ?hyr10 (by with_reducible exact hHeld) ?restr10
    case hyr10 => (intro wS hSw; (try dsimp only at hSw); go_simp; try with_reducible rfl)
    try simp only [Act.put, List.setIfInBounds_toArray, List.set_cons_zero, List.set_cons_succ]
    refine take_on (i := 5) (some 62) (v := .agg ([.int .i64 ((x : Int)), .int .i64 (mode), .int .i64 (owner), .bool (true), .int .i64 (turns + 1)]).toArray) rfl rfl (by kernel_rfl) (by kernel_rfl) (by kernel_rfl) (fun _ _ _ h => h) (by rfl) ?hyr11 (by with_reducible exact hHeld) ?restr11
    case hyr11 => exact fun wS hSw => exec_load_mid _ _ rfl _ _ rfl _ _ (hSw) Try.underlying104 rfl (by kernel_rfl)
    try simp only [Act.put, List.setIfInBounds_toArray, List.set_cons_zero, List.set_cons_succ]
    refine wpAnyH_ready (rs := [4, 6]) (by kernel_rfl) (by simp) ?_
    refine AllReadyH.cons rfl (fun K hK => ?_) ?_
    · go_simp
      refine hK.out _ _ (S0.out) (fun hHeld => ?_)
      clear hK K
      try simp only [Act.put, List.setIfInBounds_toArray, List.set_cons_zero, List.set_cons_succ]
      refine wpAnyH_ready (rs := [6]) (by kernel_rfl) (by simp) ?_
      refine AllReadyH.cons rfl (fun K hK => ?_) AllReadyH.nil
      go_simp
      refine hK.out _ _ (Sa.out) (fun hHeld => ?_)
      clear hK K
      try simp only [Act.put, List.setIfInBounds_toArray, List.set_cons_zero, List.set_cons_succ]
      refine wpAnyH_ready (rs := [7]) (by kernel_rfl) (by simp) ?_
      refine AllReadyH.cons rfl (fun K hK => ?_) AllReadyH.nil
      refine step_appendG rTy (by decide) encR_len encR_one (by rfl) (.tmp 61) (.tmp 63) (by rfl) A c P (by rw [PN.out]; rfl) Ra.out.gsl (some ⟨W.heap.size, 0, none⟩) 1 [((x : Int), mode, owner, true, turns + 1)] (by rfl) Rn.out (by rw [PN.out]; simp only [maxLen, List.length_singleton]; omega) (by rw [PN.out]; simp only [List.length_singleton]; omega) ?_
      intro A' c' wz h4 k4 q4
      have hlp : (P ++ [((x : Int), mode, owner, true, turns + 1)]).length = pn + 1 := by rw [List.length_append, PN.out]; rfl
      obtain ⟨SP, CP, FP, cq2, fq2, CP1⟩ := Ra.out.app h4 k4 q4
      rw [hlp] at SP CP ⊢
      rw [PN.out] at cq2
      have PBz := Lib.hid (show Blk wz pb 104 #[.int .i64 ((x : Int)), .int .i64 (mode), .int .i64 (owner), .bool (true), .int .i64 (turns + 1)] from k4.blk PBa.out fun j hf => by
          obtain ⟨o, e, _⟩ := hf
          exact PNE.out _ e)
      have Sz := Lib.hid (show wz.rangeAt pb 0 [.int .i64 ((x : Int)), .int .i64 (mode), .int .i64 (owner), .bool (true), .int .i64 (turns + 1)] from Blk.range (cs := [.int .i64 ((x : Int)), .int .i64 (mode), .int .i64 (owner), .bool (true), .int .i64 (turns + 1)]) PBz.out)
      have PBy := Lib.hid (show Blk (wz.setCell ⟨R, 2, none⟩ (.slice A' (pn + 1) c')) pb 104 #[.int .i64 ((x : Int)), .int .i64 (mode), .int .i64 (owner), .bool (true), .int .i64 (turns + 1)] from PBz.out.far (fun e => PRN.out e) _)
      have Sy := Lib.hid (show (wz.setCell ⟨R, 2, none⟩ (.slice A' (pn + 1) c')).rangeAt pb 0 [.int .i64 ((x : Int)), .int .i64 (mode), .int .i64 (owner), .bool (true), .int .i64 (turns + 1)] from Blk.range (cs := [.int .i64 ((x : Int)), .int .i64 (mode), .int .i64 (owner), .bool (true), .int .i64 (turns + 1)]) PBy.out)
      have HSP := Lib.hid SP
      have HCP := Lib.hid (((Chg.alloc (fun k _ => RFp R A k) W (.cells #[.int .i64 ((x : Int)), .int .i64 (mode), .int .i64 (owner), .bool (true), .int .i64 (turns + 1)] 104)).drew).trans CP fun _ _ _ h => h)
      have HFP := Lib.hid (show ∀ k, RFp R A' k → RFp R A k ∨ W.heap.size ≤ k from fun k hk => (FP k hk).imp id fun h => Nat.le_trans (by simp [World.drew]) h)
      clear h4 k4 q4 SP CP FP CP1
      refine hK.out _ _ Sz.out (fun hHeld => ?_)
      clear hK K
      try simp only [Act.put, List.setIfInBounds_toArray, List.set_cons_zero, List.set_cons_succ]
      refine take_on (i := 8) (some 65) (v := ?vr12) rfl rfl (by kernel_rfl) (by kernel_rfl) (by kernel_rfl) (fun _ _ _ h => h) (by rfl) ?hyr12 (by with_reducible exact hHeld) ?restr12
      case hyr12 => (intro wS hSw; (try dsimp only at hSw); go_simp; try with_reducible rfl)
      try simp only [Act.put, List.setIfInBounds_toArray, List.set_cons_zero, List.set_cons_succ]
      refine take_on (i := 9) (some 66) (v := ?vr13) rfl rfl (by kernel_rfl) (by kernel_rfl) (by kernel_rfl) (fun _ _ _ h => h) (by rfl) ?hyr13 (by with_reducible exact hHeld) ?restr13
      case hyr13 => (intro wS hSw; (try dsimp only at hSw); go_simp; try with_reducible rfl)
      try simp only [Act.put, List.setIfInBounds_toArray, List.set_cons_zero, List.set_cons_succ]
      refine wpAnyH_ready (rs := [10]) (by kernel_rfl) (by simp) ?_
      refine AllReadyH.cons rfl (fun K hK => ?_) AllReadyH.nil
      go_simp
      refine hK.out _ _ (Sy.out) (fun hHeld => ?_)
      clear hK K
      try simp only [Act.put, List.setIfInBounds_toArray, List.set_cons_zero, List.set_cons_succ]
      refine wpAnyH_done (by kernel_rfl) ?_ _
      refine NoPanic.normal ?_
      go_wp2
      go_ret2
      rw [e1.out]
      refine ⟨rfl, A', c', _, turns + 1, ⟨HSP.out, H.out.sim.grant hxn mode owner, by rw [hlp]; have := H.out.len; rw [PN.out] at this; omega, ?_⟩, CW.out.trans HCP.out fun _ _ _ h => h, fun k hk => (HFP.out k hk).imp id fun h => Nat.le_trans HSZ.out h⟩
      have t1 := H.out.tle
      have t2 := rowSum_upd L (L (x * 2) ++ [(owner, mode)]) (L (x * 2 + 1)) hxn
      dsimp only at t2 ⊢
      omega
    · refine AllReadyH.cons rfl (fun K hK => ?_) AllReadyH.nil
      go_simp
      refine hK.out _ _ (Sa.out) (fun hHeld => ?_)
      clear hK K
      try simp only [Act.put, List.setIfInBounds_toArray, List.set_cons_zero, List.set_cons_succ]
      refine wpAnyH_ready (rs := [4]) (by kernel_rfl) (by simp) ?_
      refine AllReadyH.cons rfl (fun K hK => ?_) AllReadyH.nil
      go_simp
      refine hK.out _ _ (Sa.out) (fun hHeld => ?_)
      clear hK K
      try simp only [Act.put, List.setIfInBounds_toArray, List.set_cons_zero, List.set_cons_succ]
      refine wpAnyH_ready (rs := [7]) (by kernel_rfl) (by simp) ?_
      refine AllReadyH.cons rfl (fun K hK => ?_) AllReadyH.nil
      refine step_appendG rTy (by decide) encR_len encR_one (by rfl) (.tmp 61) (.tmp 63) (by rfl) A c P (by rw [PN.out]; rfl) Ra.out.gsl (some ⟨W.heap.size, 0, none⟩) 1 [((x : Int), mode, owner, true, turns + 1)] (by rfl) Rn.out (by rw [PN.out]; simp only [maxLen, List.length_singleton]; omega) (by rw [PN.out]; simp only [List.length_singleton]; omega) ?_
      intro A' c' wz h4 k4 q4
      have hlp : (P ++ [((x : Int), mode, owner, true, turns + 1)]).length = pn + 1 := by rw [List.length_append, PN.out]; rfl
      obtain ⟨SP, CP, FP, cq2, fq2, CP1⟩ := Ra.out.app h4 k4 q4
      rw [hlp] at SP CP ⊢
      rw [PN.out] at cq2
      have PBz := Lib.hid (show Blk wz pb 104 #[.int .i64 ((x : Int)), .int .i64 (mode), .int .i64 (owner), .bool (true), .int .i64 (turns + 1)] from k4.blk PBa.out fun j hf => by
          obtain ⟨o, e, _⟩ := hf
          exact PNE.out _ e)
      have Sz := Lib.hid (show wz.rangeAt pb 0 [.int .i64 ((x : Int)), .int .i64 (mode), .int .i64 (owner), .bool (true), .int .i64 (turns + 1)] from Blk.range (cs := [.int .i64 ((x : Int)), .int .i64 (mode), .int .i64 (owner), .bool (true), .int .i64 (turns + 1)]) PBz.out)
      have PBy := Lib.hid (show Blk (wz.setCell ⟨R, 2, none⟩ (.slice A' (pn + 1) c')) pb 104 #[.int .i64 ((x : Int)), .int .i64 (mode), .int .i64 (owner), .bool (true), .int .i64 (turns + 1)] from PBz.out.far (fun e => PRN.out e) _)
      have Sy := Lib.hid (show (wz.setCell ⟨R, 2, none⟩ (.slice A' (pn + 1) c')).rangeAt pb 0 [.int .i64 ((x : Int)), .int .i64 (mode), .int .i64 (owner), .bool (true), .int .i64 (turns + 1)] from Blk.range (cs := [.int .i64 ((x : Int)), .int .i64 (mode), .int .i64 (owner), .bool (true), .int .i64 (turns + 1)]) PBy.out)
      have HSP := Lib.hid SP
      have HCP := Lib.hid (((Chg.alloc (fun k _ => RFp R A k) W (.cells #[.int .i64 ((x : Int)), .int .i64 (mode), .int .i64 (owner), .bool (true), .int .i64 (turns + 1)] 104)).drew).trans CP fun _ _ _ h => h)
      have HFP := Lib.hid (show ∀ k, RFp R A' k → RFp R A k ∨ W.heap.size ≤ k from fun k hk => (FP k hk).imp id fun h => Nat.le_trans (by simp [World.drew]) h)
      clear h4 k4 q4 SP CP FP CP1
      refine hK.out _ _ Sz.out (fun hHeld => ?_)
      clear hK K
      try simp only [Act.put, List.setIfInBounds_toArray, List.set_cons_zero, List.set_cons_succ]
      refine take_on (i := 8) (some 65) (v := ?vr14) rfl rfl (by kernel_rfl) (by kernel_rfl) (by kernel_rfl) (fun _ _ _ h => h) (by rfl) ?hyr14 (by with_reducible exact hHeld) ?restr14
      case hyr14 => (intro wS hSw; (try dsimp only at hSw); go_simp; try with_reducible rfl)
      try simp only [Act.put, List.setIfInBounds_toArray, List.set_cons_zero, List.set_cons_succ]
      refine take_on (i := 9) (some 66) (v := ?vr15) rfl rfl (by kernel_rfl) (by kernel_rfl) (by kernel_rfl) (fun _ _ _ h => h) (by rfl) ?hyr15 (by with_reducible exact hHeld) ?restr15
      case hyr15 => (intro wS hSw; (try dsimp only at hSw); go_simp; try with_reducible rfl)
      try simp only [Act.put, List.setIfInBounds_toArray, List.set_cons_zero, List.set_cons_succ]
      refine wpAnyH_ready (rs := [10]) (by kernel_rfl) (by simp) ?_
      refine AllReadyH.cons rfl (fun K hK => ?_) AllReadyH.nil
      go_simp
      refine hK.out _ _ (Sy.out) (fun hHeld => ?_)
      clear hK K
      try simp only [Act.put, List.setIfInBounds_toArray, List.set_cons_zero, List.set_cons_succ]
      refine wpAnyH_done (by kernel_rfl) ?_ _
      refine NoPanic.normal ?_
      go_wp2
      go_ret2
      rw [e1.out]
      refine ⟨rfl, A', c', _, turns + 1, ⟨HSP.out, H.out.sim.grant hxn mode owner, by rw [hlp]; have := H.out.len; rw [PN.out] at this; omega, ?_⟩, CW.out.trans HCP.out fun _ _ _ h => h, fun k hk => (HFP.out k hk).imp id fun h => Nat.le_trans HSZ.out h⟩
      have t1 := H.out.tle
      have t2 := rowSum_upd L (L (x * 2) ++ [(owner, mode)]) (L (x * 2 + 1)) hxn
      dsimp only at t2 ⊢
      omega
  | false =>
    have hcn : ¬ (gb = true ∧ ff < 0) := fun h => by rw [h.1, decide_eq_true h.2] at hcb; cases hcb
    have V3' := Lib.hid (V3.out hf hcn)
    have V4' := Lib.hid (V4.out hf hcn)
    have gw := rwaiting_any R pn c A P w2.drew PN.out (by omega) C22 H2.out.s.gsl.rds
    rw [H2.out.sim.waits, ← HWT.out] at gw
    have GW := Lib.hid gw
    have H3 := Lib.hid (H2.out.below (Below.refl _ _).drew)
    have c1 : w2.drew.cell? ⟨R, 1, none⟩ = some (.int .i64 most) := H3.out.s.blk.cell 1
    have PB3 := Lib.hid (show Blk w2.drew pb 104 #[.int .i64 (x : Int), .int .i64 mode, .int .i64 owner, .bool false, .int .i64 0] from PB2.out)
    have B3 := Lib.hid (show Below w.heap.size w w2.drew from B2.out.drew)
    clear hcb hcn GQ V1 V2 V3 V4 gw c3 f3 p3 p4 pf3 pf4 C22
    go_wp2_with fail
    refine wp_region_noPanic ?_
    refine wp_region_held_drew (S := fun w' => w'.cell? ⟨R, 1, none⟩ = some (.int .i64 most)) (by kernel_rfl) (c1) (fun hHeld => ?_)
    refine take_on (i := 0) (some 67) (v := ?vr1) rfl rfl (by kernel_rfl) (by kernel_rfl) (by kernel_rfl) (fun _ _ _ h => h) (by rfl) ?hyr1 (by with_reducible exact hHeld) ?restr1
    case hyr1 => (intro wS hSw; (try dsimp only at hSw); go_simp; try with_reducible rfl)
    try simp only [Act.put, List.setIfInBounds_toArray, List.set_cons_zero, List.set_cons_succ]
    refine take_on (i := 2) (some 69) (v := ?vr2) rfl rfl (by kernel_rfl) (by kernel_rfl) (by kernel_rfl) (fun _ _ _ h => h) (by rfl) ?hyr2 (by with_reducible exact hHeld) ?restr2
    case hyr2 => (intro wS hSw; (try dsimp only at hSw); go_simp; try with_reducible rfl)
    try simp only [Act.put, List.setIfInBounds_toArray, List.set_cons_zero, List.set_cons_succ]
    refine take_on (i := 3) (some 70) (v := ?vr3) rfl rfl (by kernel_rfl) (by kernel_rfl) (by kernel_rfl) (fun _ _ _ h => h) (by rfl) ?hyr3 (by with_reducible exact hHeld) ?restr3
    case hyr3 => (intro wS hSw; (try dsimp only at hSw); go_simp; try with_reducible rfl)
    try simp only [Act.put, List.setIfInBounds_toArray, List.set_cons_zero, List.set_cons_succ]
    refine take_on (i := 4) (some 71) (v := ?vr4) rfl rfl (by kernel_rfl) (by kernel_rfl) (by kernel_rfl) (fun _ _ _ h => h) (by rfl) ?hyr4 (by with_reducible exact hHeld) ?restr4
    case hyr4 => (intro wS hSw; (try dsimp only at hSw); go_simp; try with_reducible rfl)
    try simp only [Act.put, List.setIfInBounds_toArray, List.set_cons_zero, List.set_cons_succ]
    refine take_on (i := 5) (some 72) (v := ?vr5) rfl rfl (by kernel_rfl) (by kernel_rfl) (by kernel_rfl) (fun _ _ _ h => h) (by rfl) ?hyr5 (by with_reducible exact hHeld) ?restr5
    case hyr5 => (intro wS hSw; (try dsimp only at hSw); go_simp; try with_reducible rfl)
    try simp only [Act.put, List.setIfInBounds_toArray, List.set_cons_zero, List.set_cons_succ]
    refine wpAnyH_ready (rs := [1]) (by kernel_rfl) (by simp) ?_
    refine AllReadyH.cons rfl (fun K hK => ?_) AllReadyH.nil
    go_simp
    with_reducible refine GW.out.mono ?_
    rintro e w' ⟨rfl, rfl⟩
    clear GW
    refine hK.out _ _ (c1) (fun hHeld => ?_)
    clear hK K
    try simp only [Act.put, List.setIfInBounds_toArray, List.set_cons_zero, List.set_cons_succ]
    refine take_on (i := 6) (some 73) (v := ?vr6) rfl rfl (by kernel_rfl) (by kernel_rfl) (by kernel_rfl) (fun _ _ _ h => h) (by rfl) ?hyr6 (by with_reducible exact hHeld) ?restr6
    case hyr6 => (intro wS hSw; (try dsimp only at hSw); go_simp; try with_reducible rfl)
    try simp only [Act.put, List.setIfInBounds_toArray, List.set_cons_zero, List.set_cons_succ]
    refine wpAnyH_done (by kernel_rfl) ?_ _
    refine NoPanic.normal ?_
    by_cases hfull : most ≤ wait
    · have e1 := Lib.hid (V3'.out hfull)
      go_wp2
      go_ret2
      rw [e1.out]
      exact ⟨rfl, H.out.ok B3.out (Nat.le_succ i)⟩
    · have e1 := Lib.hid (V4'.out (by omega))
      obtain ⟨W, hW⟩ : ∃ W, W = w2.drew := ⟨_, rfl⟩
      rw [← hW] at H3 PB3 B3 ⊢
      have RW := Lib.hid H3.out.s
      have CW := Lib.hid (Chg.of_below (fun k _ => RFp R A k) B3.out)
      have hsz : w.heap.size ≤ W.heap.size := B3.out.size
      have HSZ := Lib.hid hsz
      have PB := PB3
      have PNE := Lib.hid (show ∀ (o : Nat), A = some ⟨pb, o, none⟩ → False from fun o e => PNE0.out pb o e rfl)
      clear V3' V4' hW c1 hsz
      go_wp2_with fail
      have Ra := Lib.hid (RW.out.below (((Below.refl W.heap.size W).alloc (Nat.le_refl _) (.cells #[.int .i64 ((x : Int)), .int .i64 (mode), .int .i64 (owner), .bool (false), .int .i64 (0)] 104)).drew))
      have Rn := Lib.hid (show RdS encR 5 (W.alloc (.cells #[.int .i64 ((x : Int)), .int .i64 (mode), .int .i64 (owner), .bool (false), .int .i64 (0)] 104)).drew (some ⟨W.heap.size, 0, none⟩) [((x : Int), mode, owner, false, 0)] from RdS.new1 encR 5 W 104 ((x : Int), mode, owner, false, 0))
      have PBa := Lib.hid (show Blk (W.alloc (.cells #[.int .i64 ((x : Int)), .int .i64 (mode), .int .i64 (owner), .bool (false), .int .i64 (0)] 104)).drew pb 104 #[.int .i64 ((x : Int)), .int .i64 (mode), .int .i64 (owner), .bool (false), .int .i64 (0)] from PB.out.alloc _)
      have cq0 : W.drew.cell? ⟨R, 2, none⟩ = some (.slice A pn c) := by rw [← PN.out]; exact RW.out.blk.cell 2
      have cq1 : (W.alloc (.cells #[.int .i64 ((x : Int)), .int .i64 (mode), .int .i64 (owner), .bool (false), .int .i64 (0)] 104)).drew.cell? ⟨R, 2, none⟩ = some (.slice A pn c) := by rw [← PN.out]; exact Ra.out.blk.cell 2
      have S0 := Lib.hid (show W.drew.rangeAt pb 0 [.int .i64 ((x : Int)), .int .i64 (mode), .int .i64 (owner), .bool (false), .int .i64 (0)] from Blk.range (cs := [.int .i64 ((x : Int)), .int .i64 (mode), .int .i64 (owner), .bool (false), .int .i64 (0)]) PB.out)
      have Sa := Lib.hid (show (W.alloc (.cells #[.int .i64 ((x : Int)), .int .i64 (mode), .int .i64 (owner), .bool (false), .int .i64 (0)] 104)).drew.rangeAt pb 0 [.int .i64 ((x : Int)), .int .i64 (mode), .int .i64 (owner), .bool (false), .int .i64 (0)] from Blk.range (cs := [.int .i64 ((x : Int)), .int .i64 (mode), .int .i64 (owner), .bool (false), .int .i64 (0)]) PBa.out)
      refine wp_region_noPanic ?_
      refine wp_region_held_drew (S := fun w' => w'.rangeAt pb 0 [.int .i64 ((x : Int)), .int .i64 (mode), .int .i64 (owner), .bool (false), .int .i64 (0)]) (by kernel_rfl) (S0.out) (fun hHeld => ?_)
      refine take_on (i := 0) (some 74) (v := ?vr16) rfl rfl (by kernel_rfl) (by kernel_rfl) (by kernel_rfl) (fun _ _ _ h => h) (by rfl) ?hyr16 (by with_reducible exact hHeld) ?restr16
      case hyr16 => (intro wS hSw; (try dsimp only at hSw); go_simp; try with_reducible rfl)
      try simp only [Act.put, List.setIfInBounds_toArray, List.set_cons_zero, List.set_cons_succ]
      refine take_on (i := 1) (some 75) (v := ?vr17) rfl rfl (by kernel_rfl) (by kernel_rfl) (by kernel_rfl) (fun _ _ _ h => h) (by rfl) ?hyr17 (by with_reducible exact hHeld) ?restr17
      case hyr17 => (intro wS hSw; (try dsimp only at hSw); go_simp; try with_reducible rfl)
      try simp only [Act.put, List.setIfInBounds_toArray, List.set_cons_zero, List.set_cons_succ]
      refine take_on (i := 2) (some 76) (v := ?vr18) rfl rfl (by kernel_rfl) (by kernel_rfl) (by kernel_rfl) (fun _ _ _ h => h) (by rfl) ?hyr18 (by with_reducible exact hHeld) ?restr18
      case hyr18 => (intro wS hSw; (try dsimp only at hSw); go_simp; try with_reducible rfl)
      try simp only [Act.put, List.setIfInBounds_toArray, List.set_cons_zero, List.set_cons_succ]
      refine take_on (i := 3) (some 77) (v := ?vr19) rfl rfl (by kernel_rfl) (by kernel_rfl) (by kernel_rfl) (fun _ _ _ h => h) (by rfl) ?hyr19 (by with_reducible exact hHeld) ?restr19
      case hyr19 => (intro wS hSw; (try dsimp only at hSw); go_simp; try with_reducible rfl)
      try simp only [Act.put, List.setIfInBounds_toArray, List.set_cons_zero, List.set_cons_succ]
      refine take_on (i := 5) (some 79) (v := .agg ([.int .i64 ((x : Int)), .int .i64 (mode), .int .i64 (owner), .bool (false), .int .i64 (0)]).toArray) rfl rfl (by kernel_rfl) (by kernel_rfl) (by kernel_rfl) (fun _ _ _ h => h) (by rfl) ?hyr20 (by with_reducible exact hHeld) ?restr20
      case hyr20 => exact fun wS hSw => exec_load_mid _ _ rfl _ _ rfl _ _ (hSw) Try.underlying104 rfl (by kernel_rfl)
      try simp only [Act.put, List.setIfInBounds_toArray, List.set_cons_zero, List.set_cons_succ]
      refine wpAnyH_ready (rs := [4, 6]) (by kernel_rfl) (by simp) ?_
      refine AllReadyH.cons rfl (fun K hK => ?_) ?_
      · go_simp
        refine hK.out _ _ (S0.out) (fun hHeld => ?_)
        clear hK K
        try simp only [Act.put, List.setIfInBounds_toArray, List.set_cons_zero, List.set_cons_succ]
        refine wpAnyH_ready (rs := [6]) (by kernel_rfl) (by simp) ?_
        refine AllReadyH.cons rfl (fun K hK => ?_) AllReadyH.nil
        go_simp
        refine hK.out _ _ (Sa.out) (fun hHeld => ?_)
        clear hK K
        try simp only [Act.put, List.setIfInBounds_toArray, List.set_cons_zero, List.set_cons_succ]
        refine wpAnyH_ready (rs := [7]) (by kernel_rfl) (by simp) ?_
        refine AllReadyH.cons rfl (fun K hK => ?_) AllReadyH.nil
        refine step_appendG rTy (by decide) encR_len encR_one (by rfl) (.tmp 78) (.tmp 80) (by rfl) A c P (by rw [PN.out]; rfl) Ra.out.gsl (some ⟨W.heap.size, 0, none⟩) 1 [((x : Int), mode, owner, false, 0)] (by rfl) Rn.out (by rw [PN.out]; simp only [maxLen, List.length_singleton]; omega) (by rw [PN.out]; simp only [List.length_singleton]; omega) ?_
        intro A' c' wz h4 k4 q4
        have hlp : (P ++ [((x : Int), mode, owner, false, 0)]).length = pn + 1 := by rw [List.length_append, PN.out]; rfl
        obtain ⟨SP, CP, FP, cq2, fq2, CP1⟩ := Ra.out.app h4 k4 q4
        rw [hlp] at SP CP ⊢
        rw [PN.out] at cq2
        have PBz := Lib.hid (show Blk wz pb 104 #[.int .i64 ((x : Int)), .int .i64 (mode), .int .i64 (owner), .bool (false), .int .i64 (0)] from k4.blk PBa.out fun j hf => by
            obtain ⟨o, e, _⟩ := hf
            exact PNE.out _ e)
        have Sz := Lib.hid (show wz.rangeAt pb 0 [.int .i64 ((x : Int)), .int .i64 (mode), .int .i64 (owner), .bool (false), .int .i64 (0)] from Blk.range (cs := [.int .i64 ((x : Int)), .int .i64 (mode), .int .i64 (owner), .bool (false), .int .i64 (0)]) PBz.out)
        have PBy := Lib.hid (show Blk (wz.setCell ⟨R, 2, none⟩ (.slice A' (pn + 1) c')) pb 104 #[.int .i64 ((x : Int)), .int .i64 (mode), .int .i64 (owner), .bool (false), .int .i64 (0)] from PBz.out.far (fun e => PRN.out e) _)
        have Sy := Lib.hid (show (wz.setCell ⟨R, 2, none⟩ (.slice A' (pn + 1) c')).rangeAt pb 0 [.int .i64 ((x : Int)), .int .i64 (mode), .int .i64 (owner), .bool (false), .int .i64 (0)] from Blk.range (cs := [.int .i64 ((x : Int)), .int .i64 (mode), .int .i64 (owner), .bool (false), .int .i64 (0)]) PBy.out)
        have HSP := Lib.hid SP
        have HCP := Lib.hid (((Chg.alloc (fun k _ => RFp R A k) W (.cells #[.int .i64 ((x : Int)), .int .i64 (mode), .int .i64 (owner), .bool (false), .int .i64 (0)] 104)).drew).trans CP fun _ _ _ h => h)
        have HFP := Lib.hid (show ∀ k, RFp R A' k → RFp R A k ∨ W.heap.size ≤ k from fun k hk => (FP k hk).imp id fun h => Nat.le_trans (by simp [World.drew]) h)
        clear h4 k4 q4 SP CP FP CP1
        refine hK.out _ _ Sz.out (fun hHeld => ?_)
        clear hK K
        try simp only [Act.put, List.setIfInBounds_toArray, List.set_cons_zero, List.set_cons_succ]
        refine take_on (i := 8) (some 82) (v := ?vr21) rfl rfl (by kernel_rfl) (by kernel_rfl) (by kernel_rfl) (fun _ _ _ h => h) (by rfl) ?hyr21 (by with_reducible exact hHeld) ?restr21
        case hyr21 => (intro wS hSw; (try dsimp only at hSw); go_simp; try with_reducible rfl)
        try simp only [Act.put, List.setIfInBounds_toArray, List.set_cons_zero, List.set_cons_succ]
        refine take_on (i := 9) (some 83) (v := ?vr22) rfl rfl (by kernel_rfl) (by kernel_rfl) (by kernel_rfl) (fun _ _ _ h => h) (by rfl) ?hyr22 (by with_reducible exact hHeld) ?restr22
        case hyr22 => (intro wS hSw; (try dsimp only at hSw); go_simp; try with_reducible rfl)
        try simp only [Act.put, List.setIfInBounds_toArray, List.set_cons_zero, List.set_cons_succ]
        refine wpAnyH_ready (rs := [10]) (by kernel_rfl) (by simp) ?_
        refine AllReadyH.cons rfl (fun K hK => ?_) AllReadyH.nil
        go_simp
        refine hK.out _ _ (Sy.out) (fun hHeld => ?_)
        clear hK K
        try simp only [Act.put, List.setIfInBounds_toArray, List.set_cons_zero, List.set_cons_succ]
        refine wpAnyH_done (by kernel_rfl) ?_ _
        refine NoPanic.normal ?_
        go_wp2
        go_ret2
        rw [e1.out]
        refine ⟨rfl, A', c', _, turns, ⟨HSP.out, H.out.sim.queue hxn mode owner, by rw [hlp]; have := H.out.len; rw [PN.out] at this; omega, ?_⟩, CW.out.trans HCP.out fun _ _ _ h => h, fun k hk => (HFP.out k hk).imp id fun h => Nat.le_trans HSZ.out h⟩
        have t1 := H.out.tle
        have t2 := rowSum_upd L (L (x * 2)) (L (x * 2 + 1) ++ [(owner, mode)]) hxn
        rw [List.length_append, List.length_singleton] at t2
        dsimp only at t2 ⊢
        omega
      · refine AllReadyH.cons rfl (fun K hK => ?_) AllReadyH.nil
        go_simp
        refine hK.out _ _ (Sa.out) (fun hHeld => ?_)
        clear hK K
        try simp only [Act.put, List.setIfInBounds_toArray, List.set_cons_zero, List.set_cons_succ]
        refine wpAnyH_ready (rs := [4]) (by kernel_rfl) (by simp) ?_
        refine AllReadyH.cons rfl (fun K hK => ?_) AllReadyH.nil
        go_simp
        refine hK.out _ _ (Sa.out) (fun hHeld => ?_)
        clear hK K
        try simp only [Act.put, List.setIfInBounds_toArray, List.set_cons_zero, List.set_cons_succ]
        refine wpAnyH_ready (rs := [7]) (by kernel_rfl) (by simp) ?_
        refine AllReadyH.cons rfl (fun K hK => ?_) AllReadyH.nil
        refine step_appendG rTy (by decide) encR_len encR_one (by rfl) (.tmp 78) (.tmp 80) (by rfl) A c P (by rw [PN.out]; rfl) Ra.out.gsl (some ⟨W.heap.size, 0, none⟩) 1 [((x : Int), mode, owner, false, 0)] (by rfl) Rn.out (by rw [PN.out]; simp only [maxLen, List.length_singleton]; omega) (by rw [PN.out]; simp only [List.length_singleton]; omega) ?_
        intro A' c' wz h4 k4 q4
        have hlp : (P ++ [((x : Int), mode, owner, false, 0)]).length = pn + 1 := by rw [List.length_append, PN.out]; rfl
        obtain ⟨SP, CP, FP, cq2, fq2, CP1⟩ := Ra.out.app h4 k4 q4
        rw [hlp] at SP CP ⊢
        rw [PN.out] at cq2
        have PBz := Lib.hid (show Blk wz pb 104 #[.int .i64 ((x : Int)), .int .i64 (mode), .int .i64 (owner), .bool (false), .int .i64 (0)] from k4.blk PBa.out fun j hf => by
            obtain ⟨o, e, _⟩ := hf
            exact PNE.out _ e)
        have Sz := Lib.hid (show wz.rangeAt pb 0 [.int .i64 ((x : Int)), .int .i64 (mode), .int .i64 (owner), .bool (false), .int .i64 (0)] from Blk.range (cs := [.int .i64 ((x : Int)), .int .i64 (mode), .int .i64 (owner), .bool (false), .int .i64 (0)]) PBz.out)
        have PBy := Lib.hid (show Blk (wz.setCell ⟨R, 2, none⟩ (.slice A' (pn + 1) c')) pb 104 #[.int .i64 ((x : Int)), .int .i64 (mode), .int .i64 (owner), .bool (false), .int .i64 (0)] from PBz.out.far (fun e => PRN.out e) _)
        have Sy := Lib.hid (show (wz.setCell ⟨R, 2, none⟩ (.slice A' (pn + 1) c')).rangeAt pb 0 [.int .i64 ((x : Int)), .int .i64 (mode), .int .i64 (owner), .bool (false), .int .i64 (0)] from Blk.range (cs := [.int .i64 ((x : Int)), .int .i64 (mode), .int .i64 (owner), .bool (false), .int .i64 (0)]) PBy.out)
        have HSP := Lib.hid SP
        have HCP := Lib.hid (((Chg.alloc (fun k _ => RFp R A k) W (.cells #[.int .i64 ((x : Int)), .int .i64 (mode), .int .i64 (owner), .bool (false), .int .i64 (0)] 104)).drew).trans CP fun _ _ _ h => h)
        have HFP := Lib.hid (show ∀ k, RFp R A' k → RFp R A k ∨ W.heap.size ≤ k from fun k hk => (FP k hk).imp id fun h => Nat.le_trans (by simp [World.drew]) h)
        clear h4 k4 q4 SP CP FP CP1
        refine hK.out _ _ Sz.out (fun hHeld => ?_)
        clear hK K
        try simp only [Act.put, List.setIfInBounds_toArray, List.set_cons_zero, List.set_cons_succ]
        refine take_on (i := 8) (some 82) (v := ?vr23) rfl rfl (by kernel_rfl) (by kernel_rfl) (by kernel_rfl) (fun _ _ _ h => h) (by rfl) ?hyr23 (by with_reducible exact hHeld) ?restr23
        case hyr23 => (intro wS hSw; (try dsimp only at hSw); go_simp; try with_reducible rfl)
        try simp only [Act.put, List.setIfInBounds_toArray, List.set_cons_zero, List.set_cons_succ]
        refine take_on (i := 9) (some 83) (v := ?vr24) rfl rfl (by kernel_rfl) (by kernel_rfl) (by kernel_rfl) (fun _ _ _ h => h) (by rfl) ?hyr24 (by with_reducible exact hHeld) ?restr24
        case hyr24 => (intro wS hSw; (try dsimp only at hSw); go_simp; try with_reducible rfl)
        try simp only [Act.put, List.setIfInBounds_toArray, List.set_cons_zero, List.set_cons_succ]
        refine wpAnyH_ready (rs := [10]) (by kernel_rfl) (by simp) ?_
        refine AllReadyH.cons rfl (fun K hK => ?_) AllReadyH.nil
        go_simp
        refine hK.out _ _ (Sy.out) (fun hHeld => ?_)
        clear hK K
        try simp only [Act.put, List.setIfInBounds_toArray, List.set_cons_zero, List.set_cons_succ]
        refine wpAnyH_done (by kernel_rfl) ?_ _
        refine NoPanic.normal ?_
        go_wp2
        go_ret2
        rw [e1.out]
        refine ⟨rfl, A', c', _, turns, ⟨HSP.out, H.out.sim.queue hxn mode owner, by rw [hlp]; have := H.out.len; rw [PN.out] at this; omega, ?_⟩, CW.out.trans HCP.out fun _ _ _ h => h, fun k hk => (HFP.out k hk).imp id fun h => Nat.le_trans HSZ.out h⟩
        have t1 := H.out.tle
        have t2 := rowSum_upd L (L (x * 2)) (L (x * 2 + 1) ++ [(owner, mode)]) hxn
        rw [List.length_append, List.length_singleton] at t2
        dsimp only at t2 ⊢
        omega
end Go.Proofs.Ytkjbjfjgnponfaa
