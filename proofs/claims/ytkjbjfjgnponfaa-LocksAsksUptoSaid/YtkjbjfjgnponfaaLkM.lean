/- Package replicalaw09: the Ledger's come, by contract. -/
import Derived.Test.YtkjbjfjgnponfaaLkL
namespace Go.Proofs.Ytkjbjfjgnponfaa
open Go.RowKit
set_option linter.unusedSimpArgs false
set_option linter.unusedVariables false
theorem Chg.cellp {F : Nat → Nat → Prop} {w w' : World} (h : Chg F w w') {p : Addr} {v : Value} (hn : ∀ i : Nat, ¬ F p.block i) (hc : w.cell? p = some v) : w'.cell? p = some v :=
  (World.cell?_of_block (h.far _ (World.block_lt_of_cell? w _ hc) hn)).trans hc
theorem LdS.congr {base Q : Nat} {wr : World} {V : Nat → Value} {L L' : Nat → List Int} (h : LdS base wr Q V L) (e : ∀ i, i < 3 → L i = L' i) : LdS base wr Q V L' := ⟨h.blk, fun i hi => by rw [← e i hi]; exact h.own i hi, h.sep, h.hQ⟩
/-- append to a field of the Ledger, written back -/
theorem LdS.app {base Q i : Nat} {wr w2 : World} {V : Nat → Value} {L : Nat → List Int} (h : LdS base wr Q V L) (hi : i < 3) {A A' : Option Addr} {c c' : Nat} {l m : List Int} (hL : L i = l) (hV : V i = .slice A l.length c) (h4 : GSl enc1 1 3 w2 A' c' (l ++ m)) (k4 : Chg (slFp 1 A l.length c) wr w2) (q4 : (A' = A ∧ c' = c) ∨ ∃ g, A' = some ⟨g, 0, none⟩ ∧ wr.heap.size ≤ g) :
    LdS base (w2.setCell ⟨Q, i, none⟩ (.slice A' (l ++ m).length c')) Q (upd V i (.slice A' (l ++ m).length c')) (upd L i (l ++ m)) ∧ Chg (fun k _ => LdF Q V k) wr w2 ∧ Chg (fun k _ => LdF Q V k) wr (w2.setCell ⟨Q, i, none⟩ (.slice A' (l ++ m).length c')) ∧
      (∀ k, LdF Q (upd V i (.slice A' (l ++ m).length c')) k → LdF Q V k ∨ wr.heap.size ≤ k) ∧ w2.cell? ⟨Q, i, none⟩ = some (V i) ∧ w2.frozen? ⟨Q, i, none⟩ = false := by
  have hFk : ∀ k j, slFp 1 A l.length c k j → (V i).ownBlock = some k := fun k j hf => by
    obtain ⟨o', e, _⟩ := hf
    subst e
    rw [hV]; rfl
  have hk : Chg (fun k _ => LdF Q V k) wr w2 := k4.mono fun k j _ hf => .inr ⟨i, hi, hFk k j hf⟩
  have hown : OffI w2 base (.slice A' (l ++ m).length c') (l ++ m) := ⟨A', c', rfl, h4, by
    rcases q4 with ⟨e1, _⟩ | ⟨g', e1, hg'⟩
    · subst e1
      obtain ⟨A2, c2, e2, _, hA2⟩ := h.own i hi
      rw [hV] at e2
      injection e2 with e2
      subst e2
      exact hA2
    · exact .inr ⟨g', 0, e1, by have := h.hQ; have := h.blk.lt; omega⟩⟩
  have hv : ∀ k, (Value.slice A' (l ++ m).length c').ownBlock = some k → (V i).ownBlock = some k ∨ wr.heap.size ≤ k := fun k e => by
    rcases q4 with ⟨e1, _⟩ | ⟨g', e1, hg'⟩
    · subst e1
      left
      rw [hV]
      cases A' with
      | none => cases e
      | some a => exact e
    · subst e1
      cases e
      exact .inr hg'
  have hb2 := k4.blk h.blk fun j hf => by
    obtain ⟨_, cs, hb⟩ := (h.own i hi).blk (hFk _ _ hf)
    exact blk_type_ne hb h.blk (by decide) rfl
  refine ⟨h.put hi k4 hFk hown hv, hk, hk.trans (Chg.setCell (fun k _ => LdF Q V k) _ (show LdF Q V Q from .inl rfl) _) fun _ _ _ h => h, fun k hk => ?_, ?_, hb2.frozen i⟩
  · rcases hk with rfl | ⟨j, hj, e⟩
    · exact .inl (.inl rfl)
    · by_cases e2 : j = i
      · subst e2
        rw [upd_same] at e
        exact (hv k e).imp (fun h => .inr ⟨j, hj, h⟩) id
      · rw [upd_ne _ _ e2] at e
        exact .inl (.inr ⟨j, hj, e⟩)
  · rw [hb2.cell]
    match i, hi with
    | 0, _ => rfl
    | 1, _ => rfl
    | 2, _ => rfl
theorem come_nil : ∀ {r h : List Pl} {h2 r2 : List Pl}, comeL h r = (h2, r2, []) → h2 = h ∧ r2 = r
  | [], h, h2, r2, e => by cases e; exact ⟨rfl, rfl⟩
  | p :: q, h, h2, r2, e => by
    rw [comeL] at e
    split at e
    · cases e
    · cases e; exact ⟨rfl, rfl⟩
theorem come_cons {r h : List Pl} {h2 r2 : List Pl} {y : Int} {ys : List Int} (e : comeL h r = (h2, r2, y :: ys)) : ∃ p q, r = p :: q ∧ p.1 = y ∧ goesL h p.2 = true ∧ comeL (h ++ [p]) q = (h2, r2, ys) := by
  cases r with
  | nil => cases e
  | cons p q =>
    rw [comeL] at e
    split at e
    · next hg => 
      injection e with e1 e2
      injection e2 with e2 e3
      injection e3 with e3 e4
      exact ⟨p, q, rfl, e3, hg, by rw [← e1, ← e2, ← e4]⟩
    · cases e
theorem own_drop (A : Option Addr) (k n c n' c' : Nat) : (Value.slice (if c = k then A else A.map (fun x => x.add k)) n' c').ownBlock = (Value.slice A n c).ownBlock := by
  cases A with
  | none => split <;> rfl
  | some a =>
    split
    · rfl
    · show some (a.add k).block = some a.block
      rw [blk_add]
theorem off_drop {w : World} {base k c n : Nat} {A : Option Addr} {l : List Int} (h : OffI w base (.slice A n c) l) (hk : k ≤ n) : OffI w base (.slice (if c = k then A else A.map (fun x => x.add k)) (n - k) (c - k)) (l.drop k) := by
  obtain ⟨A2, c2, e, hG, hA⟩ := h
  injection e with e1 e2 e3
  subst e1
  subst e2
  subst e3
  have hd := hG.drop k hk
  rw [Nat.mul_one] at hd
  refine ⟨_, _, by rw [List.length_drop], hd, ?_⟩
  split
  · exact hA
  · rcases hA with rfl | ⟨g, o, rfl, hb⟩
    · exact .inl rfl
    · exact .inr ⟨g, o + k, by rw [Option.map_some, add_lit_], hb⟩
/-- the row's first places are cut off -/
theorem LdS.cut {base Q rn k c0 c1 : Nat} {wr : World} {V : Nat → Value} {R : List Pl} {H : List Int} {A0 A1 : Option Addr} (h : LdS base wr Q V (LdL R H)) (e0 : V 0 = .slice A0 rn c0) (e1 : V 1 = .slice A1 rn c1) (hk : k ≤ rn) :
    ∃ V' : Nat → Value, LdS base ((wr.setCell ⟨Q, 0, none⟩ (.slice (if c0 = k then A0 else A0.map (fun x => x.add k)) (rn - k) (c0 - k))).setCell ⟨Q, 1, none⟩ (.slice (if c1 = k then A1 else A1.map (fun x => x.add k)) (rn - k) (c1 - k))) Q V' (LdL (R.drop k) H) ∧
      Chg (fun k _ => LdF Q V k) wr ((wr.setCell ⟨Q, 0, none⟩ (.slice (if c0 = k then A0 else A0.map (fun x => x.add k)) (rn - k) (c0 - k))).setCell ⟨Q, 1, none⟩ (.slice (if c1 = k then A1 else A1.map (fun x => x.add k)) (rn - k) (c1 - k))) ∧ (∀ j, LdF Q V' j → LdF Q V j) := by
  have o0 := h.own 0 (by omega)
  have o1 := h.own 1 (by omega)
  rw [e0] at o0
  rw [e1] at o1
  have p0 := h.put (i := 0) (l := (LdL R H 0).drop k) (by omega) (Chg.refl (fun _ _ => False) wr) (fun _ _ h => h.elim) (off_drop o0 hk) fun j hj => .inl (by rw [e0, ← own_drop A0 k rn c0 (rn - k) (c0 - k)]; exact hj)
  have o1' : OffI (wr.setCell ⟨Q, 0, none⟩ (.slice (if c0 = k then A0 else A0.map (fun x => x.add k)) (rn - k) (c0 - k))) base (.slice A1 rn c1) (LdL R H 1) := by
    have := p0.own 1 (by omega)
    rw [upd_ne _ _ (by decide), upd_ne _ _ (by decide), e1] at this
    exact this
  have p1 := p0.put (i := 1) (l := (LdL R H 1).drop k) (by omega) (Chg.refl (fun _ _ => False) _) (fun _ _ h => h.elim) (off_drop o1' hk) fun j hj => .inl (by rw [upd_ne _ _ (by decide), e1, ← own_drop A1 k rn c1 (rn - k) (c1 - k)]; exact hj)
  refine ⟨_, p1.congr fun i hi => ?_, (Chg.setCell (fun k _ => LdF Q V k) _ (show LdF Q V Q from .inl rfl) _).trans (Chg.setCell (fun k _ => LdF Q V k) _ (show LdF Q V Q from .inl rfl) _) fun _ _ _ h => h, fun j hj => ?_⟩
  · match i, hi with
    | 0, _ => exact List.map_drop.symm
    | 1, _ => exact List.map_drop.symm
    | 2, _ => rfl
  · rcases hj with rfl | ⟨i, hi, e⟩
    · exact .inl rfl
    · refine .inr ⟨i, hi, ?_⟩
      match i, hi, e with
      | 0, _, e => rw [e0, ← own_drop A0 k rn c0 (rn - k) (c0 - k)]; exact e
      | 1, _, e => rw [e1, ← own_drop A1 k rn c1 (rn - k) (c1 - k)]; exact e
      | 2, _, e => exact e
set_option maxRecDepth 20000 in
set_option maxHeartbeats 8000000 in
theorem come_any (base Q rn hn gn : Nat) (V : Nat → Value) (R R2 hpl h2 : List Pl) (g : List Int) (A : Option Addr) (cA : Nat) (w : World) (hr : R.length = rn) (hh : hpl.length = hn) (hg : g.length = gn) (hrb : rn ≤ 1000000) (hhb : hn ≤ 1000000) (h : LdS base w Q V (LdL R (hpl.map (·.1))))
    (hcome : comeL hpl R = (h2, R2, g)) (hne : R2 ≠ [] → h2 ≠ []) (hrd : Rd encI w A g) (hfar : ∀ ad, A = some ad → ad.block < w.heap.size ∧ ¬ LdF Q V ad.block) :
    Calls Try.prog 32 #[.pointer (some ⟨Q, 0, none⟩), .slice A gn cA] w fun e w' => e = .returned (.bool true) ∧ ∃ V' : Nat → Value, LdS base w' Q V' (LdL R2 (h2.map (·.1))) ∧ Chg (fun k _ => LdF Q V k) w w' ∧ (∀ k, LdF Q V' k → LdF Q V k ∨ w.heap.size ≤ k) := by
  have hgr : gn ≤ rn := by
    have := (comeL_len R hpl).2
    rw [hcome] at this
    dsimp only at this
    omega
  have hgr' : ¬ ((rn : Int) < (gn : Int)) := by omega
  obtain ⟨A0, c0, e0, G0, _⟩ := h.own 0 (by omega)
  have x0 := h.cell (i := 0) (by omega)
  rw [e0, show (LdL R (hpl.map (·.1)) 0).length = rn from by rw [← hr]; exact List.length_map _] at x0
  have HS := Lib.hid h
  have HR := Lib.hid hr
  have HH := Lib.hid hh
  have HG := Lib.hid hg
  have HRD := Lib.hid hrd
  have HFAR := Lib.hid hfar
  have HNE := Lib.hid hne
  have HCO := Lib.hid hcome
  clear h hr hh hg hrd hfar hne hcome e0 G0
  go_enter Try.func32, Try.ntmps32
  go_wp2_with fail
  go_loopw [5] (fun t5 wr => ∃ (i : Nat) (V1 : Nat → Value), i ≤ gn ∧ t5 = .int .i64 (i : Int) ∧ Hid (comeL (hpl ++ R.take i) (R.drop i) = (h2, R2, g.drop i)) ∧ Hid (LdS base wr Q V1 (LdL R ((hpl ++ R.take i).map (·.1)))) ∧ Hid (Chg (fun k _ => LdF Q V k) w wr) ∧ Hid (∀ k, LdF Q V1 k → LdF Q V k ∨ w.heap.size ≤ k)) (fun t5 _ => gn - (intOf t5).toNat)
  case atStart => exact ⟨0, V, by omega, rfl, Lib.hid (by simpa using HCO.out), Lib.hid (by simpa using HS.out), Lib.hid (Chg.refl _ _), Lib.hid fun k h => .inl h⟩
  case round =>
    obtain ⟨i, V1, hi, rfl, hco, hS, hC, hF⟩ := hrel
    clear HS HCO x0
    obtain ⟨A0, c0, e0, G0, _⟩ := hS.out.own 0 (by omega)
    obtain ⟨A1, c1, e1, G1, _⟩ := hS.out.own 1 (by omega)
    obtain ⟨A2, c2, e2, G2, _⟩ := hS.out.own 2 (by omega)
    have x0 := hS.out.cell (i := 0) (by omega)
    have x1 := hS.out.cell (i := 1) (by omega)
    have x2 := hS.out.cell (i := 2) (by omega)
    have E2 := Lib.hid e2
    rw [e0, show (LdL R ((hpl ++ R.take i).map (·.1)) 0).length = rn from by rw [← HR.out]; exact List.length_map _] at x0
    rw [e1, show (LdL R ((hpl ++ R.take i).map (·.1)) 1).length = rn from by rw [← HR.out]; exact List.length_map _] at x1
    obtain ⟨hq, hhq⟩ : ∃ k, k = (LdL R ((hpl ++ R.take i).map (·.1)) 2).length := ⟨_, rfl⟩
    rw [← hhq] at e2
    rw [e2] at x2
    have hq2 : hq = hn + i := by
      rw [hhq]
      show ((hpl ++ R.take i).map (·.1)).length = _
      rw [List.length_map, List.length_append, List.length_take, HH.out, HR.out]
      omega
    have HHQ := Lib.hid hhq
    have HQ2 := Lib.hid hq2
    have E0 := Lib.hid e0
    have E1 := Lib.hid e1
    have VI := Lib.hid e2
    have GG := Lib.hid G2
    have G0s := Lib.hid G0
    have G1s := Lib.hid G1
    have R0 := Lib.hid (rd_of_g G0)
    have R1 := Lib.hid (rd_of_g G1)
    clear e0 e1 e2 G0 G1 G2 hhq E2 hq2
    by_cases hlt : i < gn
    · have hlt' : (i : Int) < (gn : Int) := by omega
      obtain ⟨ad, y, hA, hy, hc⟩ := HRD.out.at_ (show i < g.length by rw [HG.out]; exact hlt)
      subst hA
      have hd : g.drop i = y :: g.drop (i + 1) := by
        have h1 := (List.getElem?_eq_some_iff.1 hy)
        rw [List.drop_eq_getElem_cons h1.1, h1.2]
      have hco2 := hco.out
      rw [hd] at hco2
      obtain ⟨p, q, hpq, hpy, hgo, hnext⟩ := come_cons hco2
      have hpi : R[i]? = some p := by
        have := congrArg (·[0]?) hpq
        simpa using this
      have hqd : R.drop (i + 1) = q := by
        have := congrArg (List.drop 1) hpq
        simpa using this
      have htk : hpl ++ R.take (i + 1) = hpl ++ R.take i ++ [p] := by rw [List.take_add_one, hpi, List.append_assoc]; rfl
      obtain ⟨b0, z0, hb0, hz0, hcc0⟩ := R0.out.at_ (show i < (LdL R ((hpl ++ R.take i).map (·.1)) 0).length by rw [show (LdL R ((hpl ++ R.take i).map (·.1)) 0).length = rn from by rw [← HR.out]; exact List.length_map _]; omega)
      obtain ⟨b1, z1, hb1, hz1, hcc1⟩ := R1.out.at_ (show i < (LdL R ((hpl ++ R.take i).map (·.1)) 1).length by rw [show (LdL R ((hpl ++ R.take i).map (·.1)) 1).length = rn from by rw [← HR.out]; exact List.length_map _]; omega)
      subst hb0
      subst hb1
      obtain rfl : z0 = p.1 := by have h1 : (R.map (·.1))[i]? = some z0 := hz0; rw [List.getElem?_map, hpi] at h1; exact (Option.some.inj h1).symm
      obtain rfl : z1 = p.2 := by have h1 : (R.map (·.2))[i]? = some z1 := hz1; rw [List.getElem?_map, hpi] at h1; exact (Option.some.inj h1).symm
      have hir : (i : Int) < (rn : Int) := by omega
      have hcw := hC.out.cellp (p := ad.add i) (fun _ hf => (HFAR.out ad rfl).2 (by rw [blk_add] at hf; exact hf)) hc
      have SRC := Lib.hid (show wr.cell? (ad.add i) = some (.int .i64 y) ∧ ∀ j : Nat, ¬ LdF Q V1 (ad.add i).block from ⟨hcw, fun _ hf => by
        rcases hF.out _ hf with h1 | h1
        · rw [blk_add] at h1
          exact (HFAR.out ad rfl).2 h1
        · have := (HFAR.out ad rfl).1
          rw [blk_add] at h1
          omega⟩)
      have HNX := Lib.hid (show comeL (hpl ++ R.take (i + 1)) (R.drop (i + 1)) = (h2, R2, g.drop (i + 1)) by rw [htk, hqd]; exact hnext)
      have HTK := Lib.hid htk
      have LI := Lib.hid (show LdL R ((hpl ++ R.take i).map (·.1)) 2 = (hpl ++ R.take i).map (·.1) from rfl)
      have LN := Lib.hid (show ((hpl ++ R.take i).map (·.1)).length = hq from HHQ.out.symm)
      have GO := Lib.hid hgo
      subst hpy
      have ne0 : (p.1 != p.1) = false := by simp
      clear hco hco2 hd hy hpq hnext hpi hqd htk hz0 hz1 hc hgo HHQ
      have HS := hS
      clear hS
      obtain ⟨bx, hbx⟩ : ∃ b, b = (p.2 == 2) := ⟨_, rfl⟩
      have hq0 : bx = true → hq = 0 := fun e => by
        have h1 := GO.out
        have h3 := LN.out
        rw [List.length_map] at h3
        cases hl : hpl ++ R.take i with
        | nil => rw [hl] at h3; exact h3.symm
        | cons x xs =>
          rw [hl] at h1
          rw [e] at hbx
          have h5 : p.2 = 2 := by simpa using hbx.symm
          simp [goesL, h5] at h1
      cases bx with
      | true =>
        have hnp : ¬ ((0 : Int) < (hq : Int)) := by have := hq0 rfl; omega
        have HBX := hbx.symm
        clear hq0 hbx
        go_wp2_with fail
        go_quiet (fail)
        go_wp2_with fail
        obtain ⟨wq, hwq⟩ : ∃ wq, wq = wr.drewN nq := ⟨_, rfl⟩
        rw [← hwq]
        have HS := Lib.hid (show LdS base wq Q V1 (LdL R ((hpl ++ R.take i).map (·.1))) from by rw [hwq]; exact HS.out.below (below_drewN (Below.refl _ _) nq))
        have GG := Lib.hid (show GSl enc1 1 3 wq A2 c2 ((hpl ++ R.take i).map (·.1)) from by rw [hwq]; exact GG.out.chg ((Chg.refl (fun _ _ => False) wr).drewN nq) enc1_len fun _ _ _ h => h)
        have SRC := Lib.hid (show wq.cell? (ad.add i) = some (.int .i64 p.1) ∧ ∀ j : Nat, ¬ LdF Q V1 (ad.add i).block from by rw [hwq]; exact SRC.out)
        have hC := Lib.hid (show Chg (fun k _ => LdF Q V k) w wq from by rw [hwq]; exact hC.out.drewN nq)
        clear hwq
        have hbd : hq + 1 ≤ 8000001000001 := by have := HQ2.out; omega
        have Sa := Lib.hid (HS.out.below (((Below.refl wq.heap.size wq).alloc (Nat.le_refl _) (.cells #[.int .i64 p.1] 3)).drew))
        have Ga := Lib.hid (show GSl enc1 1 3 (wq.alloc (.cells #[.int .i64 p.1] 3)).drew A2 c2 ((hpl ++ R.take i).map (·.1)) from GG.out.chg ((Chg.alloc (fun _ _ => False) wq (.cells #[.int .i64 p.1] 3)).drew) enc1_len fun _ _ _ h => h)
        have Rn := Lib.hid (show RdS enc1 1 (wq.alloc (.cells #[.int .i64 p.1] 3)).drew (some ⟨wq.heap.size, 0, none⟩) [p.1] from (RdS.new1 enc1 1 wq 3 p.1))
        have cq0 : wq.drew.cell? ⟨Q, 2, none⟩ = some (.slice A2 hq c2) := by show wq.cell? _ = _; rw [HS.out.cell (by omega), VI.out]
        have cq1 : (wq.alloc (.cells #[.int .i64 p.1] 3)).drew.cell? ⟨Q, 2, none⟩ = some (.slice A2 hq c2) := by rw [Sa.out.cell (by omega), VI.out]
        have SF0 := Lib.hid (show wq.drew.cell? (ad.add i) = some (.int .i64 p.1) from SRC.out.1)
        have SFa := Lib.hid (show (wq.alloc (.cells #[.int .i64 p.1] 3)).drew.cell? (ad.add i) = some (.int .i64 p.1) from ((Chg.alloc (fun _ _ => False) wq (.cells #[.int .i64 p.1] 3)).drew).cellp (fun _ h => h) SRC.out.1)
        refine wp_region_noPanic ?_
        refine wp_region_held_drew (S := fun w' => w'.cell? (ad.add i) = some (.int .i64 p.1)) (by kernel_rfl) (SF0.out) (fun hHeld => ?_)
        refine take_on (i := 0) (some 50) (v := ?vr1) rfl rfl (by kernel_rfl) (by kernel_rfl) (by kernel_rfl) (fun _ _ _ h => h) (by rfl) ?hyr1 (by with_reducible exact hHeld) ?restr1
        case hyr1 => (intro wS hSw; (try dsimp only at hSw); go_simp; try with_reducible rfl)
        try simp only [Act.put, List.setIfInBounds_toArray, List.set_cons_zero, List.set_cons_succ]
        refine take_on (i := 1) (some 51) (v := ?vr2) rfl rfl (by kernel_rfl) (by kernel_rfl) (by kernel_rfl) (fun _ _ _ h => h) (by rfl) ?hyr2 (by with_reducible exact hHeld) ?restr2
        case hyr2 => (intro wS hSw; (try dsimp only at hSw); go_simp; try with_reducible rfl)
        try simp only [Act.put, List.setIfInBounds_toArray, List.set_cons_zero, List.set_cons_succ]
        refine take_on (i := 2) (some 52) (v := ?vr3) rfl rfl (by kernel_rfl) (by kernel_rfl) (by kernel_rfl) (fun _ _ _ h => h) (by rfl) ?hyr3 (by with_reducible exact hHeld) ?restr3
        case hyr3 => (intro wS hSw; (try dsimp only at hSw); go_simp; try with_reducible rfl)
        try simp only [Act.put, List.setIfInBounds_toArray, List.set_cons_zero, List.set_cons_succ]
        refine take_on (i := 3) (some 53) (v := ?vr4) rfl rfl (by kernel_rfl) (by kernel_rfl) (by kernel_rfl) (fun _ _ _ h => h) (by rfl) ?hyr4 (by with_reducible exact hHeld) ?restr4
        case hyr4 => (intro wS hSw; (try dsimp only at hSw); go_simp; try with_reducible rfl)
        try simp only [Act.put, List.setIfInBounds_toArray, List.set_cons_zero, List.set_cons_succ]
        refine take_on (i := 5) (some 55) (v := ?vr5) rfl rfl (by kernel_rfl) (by kernel_rfl) (by kernel_rfl) (fun _ _ _ h => h) (by rfl) ?hyr5 (by with_reducible exact hHeld) ?restr5
        case hyr5 => (intro wS hSw; (try dsimp only at hSw); go_simp; try with_reducible rfl)
        try simp only [Act.put, List.setIfInBounds_toArray, List.set_cons_zero, List.set_cons_succ]
        refine take_on (i := 6) (some 56) (v := ?vr6) rfl rfl (by kernel_rfl) (by kernel_rfl) (by kernel_rfl) (fun _ _ _ h => h) (by rfl) ?hyr6 (by with_reducible exact hHeld) ?restr6
        case hyr6 => (intro wS hSw; (try dsimp only at hSw); go_simp; try with_reducible rfl)
        try simp only [Act.put, List.setIfInBounds_toArray, List.set_cons_zero, List.set_cons_succ]
        refine take_on (i := 7) (some 57) (v := ?vr7) rfl rfl (by kernel_rfl) (by kernel_rfl) (by kernel_rfl) (fun _ _ _ h => h) (by rfl) ?hyr7 (by with_reducible exact hHeld) ?restr7
        case hyr7 => (intro wS hSw; (try dsimp only at hSw); go_simp; try with_reducible rfl)
        try simp only [Act.put, List.setIfInBounds_toArray, List.set_cons_zero, List.set_cons_succ]
        refine take_on (i := 8) (some 58) (v := ?vr8) rfl rfl (by kernel_rfl) (by kernel_rfl) (by kernel_rfl) (fun _ _ _ h => h) (by rfl) ?hyr8 (by with_reducible exact hHeld) ?restr8
        case hyr8 => (intro wS hSw; (try dsimp only at hSw); go_simp; try with_reducible rfl)
        try simp only [Act.put, List.setIfInBounds_toArray, List.set_cons_zero, List.set_cons_succ]
        refine wpAnyH_ready (rs := [4, 9]) (by kernel_rfl) (by simp) ?_
        refine AllReadyH.cons rfl (fun K hK => ?_) ?_
        · go_simp
          refine hK.out _ _ (SF0.out) (fun hHeld => ?_)
          clear hK K
          try simp only [Act.put, List.setIfInBounds_toArray, List.set_cons_zero, List.set_cons_succ]
          refine wpAnyH_ready (rs := [9]) (by kernel_rfl) (by simp) ?_
          refine AllReadyH.cons rfl (fun K hK => ?_) AllReadyH.nil
          go_simp
          refine hK.out _ _ (SFa.out) (fun hHeld => ?_)
          clear hK K
          try simp only [Act.put, List.setIfInBounds_toArray, List.set_cons_zero, List.set_cons_succ]
          refine wpAnyH_ready (rs := [10]) (by kernel_rfl) (by simp) ?_
          refine AllReadyH.cons rfl (fun K hK => ?_) AllReadyH.nil
          refine step_appendG intTy (by decide) enc1_len enc1_one (by rfl) (.tmp 54) (.tmp 59) (by rfl) A2 c2 ((hpl ++ R.take i).map (·.1)) (by rw [LN.out]; rfl) Ga.out (some ⟨wq.heap.size, 0, none⟩) 1 [p.1] (by rfl) Rn.out (by rw [LN.out]; simp only [maxLen, List.length_singleton]; omega) (by rw [LN.out]; simp only [List.length_singleton]; omega) ?_
          intro A' c' w2 h4 k4 q4
          have hlp : (((hpl ++ R.take i).map (·.1)) ++ [p.1]).length = hq + 1 := by rw [List.length_append, LN.out]; rfl
          obtain ⟨SP, CP, CP2, FP, cq2, fq2⟩ := Sa.out.app (i := 2) (by omega) LI.out (by rw [LN.out]; exact VI.out) h4 k4 q4
          rw [hlp] at SP CP2 FP ⊢
          rw [VI.out] at cq2
          have SF2 := Lib.hid (CP.cellp SRC.out.2 SFa.out)
          have SF3 := Lib.hid (CP2.cellp SRC.out.2 SFa.out)
          have HSP := Lib.hid SP
          have HC2 := Lib.hid (((Chg.alloc (fun k _ => LdF Q V1 k) wq (.cells #[.int .i64 p.1] 3)).drew).trans CP2 fun _ _ _ h => h)
          have HFP := Lib.hid (show ∀ k, LdF Q (upd V1 2 (.slice A' (hq + 1) c')) k → LdF Q V1 k ∨ wq.heap.size ≤ k from fun k hk => (FP k hk).imp id fun h => Nat.le_trans (by simp [World.drew]) h)
          clear h4 k4 q4 hlp SP CP CP2 FP
          refine hK.out _ _ SF2.out (fun hHeld => ?_)
          clear hK K
          try simp only [Act.put, List.setIfInBounds_toArray, List.set_cons_zero, List.set_cons_succ]
          refine take_on (i := 11) (some 61) (v := ?vr9) rfl rfl (by kernel_rfl) (by kernel_rfl) (by kernel_rfl) (fun _ _ _ h => h) (by rfl) ?hyr9 (by with_reducible exact hHeld) ?restr9
          case hyr9 => (intro wS hSw; (try dsimp only at hSw); go_simp; try with_reducible rfl)
          try simp only [Act.put, List.setIfInBounds_toArray, List.set_cons_zero, List.set_cons_succ]
          refine take_on (i := 12) (some 62) (v := ?vr10) rfl rfl (by kernel_rfl) (by kernel_rfl) (by kernel_rfl) (fun _ _ _ h => h) (by rfl) ?hyr10 (by with_reducible exact hHeld) ?restr10
          case hyr10 => (intro wS hSw; (try dsimp only at hSw); go_simp; try with_reducible rfl)
          try simp only [Act.put, List.setIfInBounds_toArray, List.set_cons_zero, List.set_cons_succ]
          refine wpAnyH_ready (rs := [13]) (by kernel_rfl) (by simp) ?_
          refine AllReadyH.cons rfl (fun K hK => ?_) AllReadyH.nil
          go_simp
          refine hK.out _ _ (SF3.out) (fun hHeld => ?_)
          clear hK K
          try simp only [Act.put, List.setIfInBounds_toArray, List.set_cons_zero, List.set_cons_succ]
          refine wpAnyH_done (by kernel_rfl) ?_ _
          refine NoPanic.normal ?_
          have HS5 := Lib.hid (HSP.out.congr (L' := LdL R ((hpl ++ R.take (i + 1)).map (·.1))) fun j hj => by
            match j, hj with
            | 0, _ => rfl
            | 1, _ => rfl
            | 2, _ =>
              show (hpl ++ R.take i).map (·.1) ++ [p.1] = (hpl ++ R.take (i + 1)).map (·.1)
              rw [HTK.out]
              simp)
          have HC5 := Lib.hid (hC.out.trans HC2.out fun k _ hk hf => by
            rcases hF.out k hf with h1 | h1
            · exact h1
            · omega)
          have HF5 := Lib.hid (show ∀ k, LdF Q (upd V1 2 (.slice A' (hq + 1) c')) k → LdF Q V k ∨ w.heap.size ≤ k from fun k hk => by
            rcases HFP.out k hk with h1 | h1
            · exact hF.out k h1
            · exact .inr (Nat.le_trans hC.out.size h1))
          clear HSP HC2 HFP
          go_wp2
          go_roundw
          case rel => exact ⟨i + 1, _, by omega, by go_num, HNX, HS5, HC5, HF5⟩
          case measure => simp [intOf]; omega
        · refine AllReadyH.cons rfl (fun K hK => ?_) AllReadyH.nil
          go_simp
          refine hK.out _ _ (SFa.out) (fun hHeld => ?_)
          clear hK K
          try simp only [Act.put, List.setIfInBounds_toArray, List.set_cons_zero, List.set_cons_succ]
          refine wpAnyH_ready (rs := [4]) (by kernel_rfl) (by simp) ?_
          refine AllReadyH.cons rfl (fun K hK => ?_) AllReadyH.nil
          go_simp
          refine hK.out _ _ (SFa.out) (fun hHeld => ?_)
          clear hK K
          try simp only [Act.put, List.setIfInBounds_toArray, List.set_cons_zero, List.set_cons_succ]
          refine wpAnyH_ready (rs := [10]) (by kernel_rfl) (by simp) ?_
          refine AllReadyH.cons rfl (fun K hK => ?_) AllReadyH.nil
          refine step_appendG intTy (by decide) enc1_len enc1_one (by rfl) (.tmp 54) (.tmp 59) (by rfl) A2 c2 ((hpl ++ R.take i).map (·.1)) (by rw [LN.out]; rfl) Ga.out (some ⟨wq.heap.size, 0, none⟩) 1 [p.1] (by rfl) Rn.out (by rw [LN.out]; simp only [maxLen, List.length_singleton]; omega) (by rw [LN.out]; simp only [List.length_singleton]; omega) ?_
          intro A' c' w2 h4 k4 q4
          have hlp : (((hpl ++ R.take i).map (·.1)) ++ [p.1]).length = hq + 1 := by rw [List.length_append, LN.out]; rfl
          obtain ⟨SP, CP, CP2, FP, cq2, fq2⟩ := Sa.out.app (i := 2) (by omega) LI.out (by rw [LN.out]; exact VI.out) h4 k4 q4
          rw [hlp] at SP CP2 FP ⊢
          rw [VI.out] at cq2
          have SF2 := Lib.hid (CP.cellp SRC.out.2 SFa.out)
          have SF3 := Lib.hid (CP2.cellp SRC.out.2 SFa.out)
          have HSP := Lib.hid SP
          have HC2 := Lib.hid (((Chg.alloc (fun k _ => LdF Q V1 k) wq (.cells #[.int .i64 p.1] 3)).drew).trans CP2 fun _ _ _ h => h)
          have HFP := Lib.hid (show ∀ k, LdF Q (upd V1 2 (.slice A' (hq + 1) c')) k → LdF Q V1 k ∨ wq.heap.size ≤ k from fun k hk => (FP k hk).imp id fun h => Nat.le_trans (by simp [World.drew]) h)
          clear h4 k4 q4 hlp SP CP CP2 FP
          refine hK.out _ _ SF2.out (fun hHeld => ?_)
          clear hK K
          try simp only [Act.put, List.setIfInBounds_toArray, List.set_cons_zero, List.set_cons_succ]
          refine take_on (i := 11) (some 61) (v := ?vr11) rfl rfl (by kernel_rfl) (by kernel_rfl) (by kernel_rfl) (fun _ _ _ h => h) (by rfl) ?hyr11 (by with_reducible exact hHeld) ?restr11
          case hyr11 => (intro wS hSw; (try dsimp only at hSw); go_simp; try with_reducible rfl)
          try simp only [Act.put, List.setIfInBounds_toArray, List.set_cons_zero, List.set_cons_succ]
          refine take_on (i := 12) (some 62) (v := ?vr12) rfl rfl (by kernel_rfl) (by kernel_rfl) (by kernel_rfl) (fun _ _ _ h => h) (by rfl) ?hyr12 (by with_reducible exact hHeld) ?restr12
          case hyr12 => (intro wS hSw; (try dsimp only at hSw); go_simp; try with_reducible rfl)
          try simp only [Act.put, List.setIfInBounds_toArray, List.set_cons_zero, List.set_cons_succ]
          refine wpAnyH_ready (rs := [13]) (by kernel_rfl) (by simp) ?_
          refine AllReadyH.cons rfl (fun K hK => ?_) AllReadyH.nil
          go_simp
          refine hK.out _ _ (SF3.out) (fun hHeld => ?_)
          clear hK K
          try simp only [Act.put, List.setIfInBounds_toArray, List.set_cons_zero, List.set_cons_succ]
          refine wpAnyH_done (by kernel_rfl) ?_ _
          refine NoPanic.normal ?_
          have HS5 := Lib.hid (HSP.out.congr (L' := LdL R ((hpl ++ R.take (i + 1)).map (·.1))) fun j hj => by
            match j, hj with
            | 0, _ => rfl
            | 1, _ => rfl
            | 2, _ =>
              show (hpl ++ R.take i).map (·.1) ++ [p.1] = (hpl ++ R.take (i + 1)).map (·.1)
              rw [HTK.out]
              simp)
          have HC5 := Lib.hid (hC.out.trans HC2.out fun k _ hk hf => by
            rcases hF.out k hf with h1 | h1
            · exact h1
            · omega)
          have HF5 := Lib.hid (show ∀ k, LdF Q (upd V1 2 (.slice A' (hq + 1) c')) k → LdF Q V k ∨ w.heap.size ≤ k from fun k hk => by
            rcases HFP.out k hk with h1 | h1
            · exact hF.out k h1
            · exact .inr (Nat.le_trans hC.out.size h1))
          clear HSP HC2 HFP
          go_wp2
          go_roundw
          case rel => exact ⟨i + 1, _, by omega, by go_num, HNX, HS5, HC5, HF5⟩
          case measure => simp [intOf]; omega
      | false =>
        have HBX := hbx.symm
        clear hq0 hbx
        go_wp2_with fail
        go_quiet (fail)
        go_wp2_with fail
        obtain ⟨wq, hwq⟩ : ∃ wq, wq = wr.drewN nq := ⟨_, rfl⟩
        rw [← hwq]
        have HS := Lib.hid (show LdS base wq Q V1 (LdL R ((hpl ++ R.take i).map (·.1))) from by rw [hwq]; exact HS.out.below (below_drewN (Below.refl _ _) nq))
        have GG := Lib.hid (show GSl enc1 1 3 wq A2 c2 ((hpl ++ R.take i).map (·.1)) from by rw [hwq]; exact GG.out.chg ((Chg.refl (fun _ _ => False) wr).drewN nq) enc1_len fun _ _ _ h => h)
        have SRC := Lib.hid (show wq.cell? (ad.add i) = some (.int .i64 p.1) ∧ ∀ j : Nat, ¬ LdF Q V1 (ad.add i).block from by rw [hwq]; exact SRC.out)
        have hC := Lib.hid (show Chg (fun k _ => LdF Q V k) w wq from by rw [hwq]; exact hC.out.drewN nq)
        clear hwq
        have hbd : hq + 1 ≤ 8000001000001 := by have := HQ2.out; omega
        have Sa := Lib.hid (HS.out.below (((Below.refl wq.heap.size wq).alloc (Nat.le_refl _) (.cells #[.int .i64 p.1] 3)).drew))
        have Ga := Lib.hid (show GSl enc1 1 3 (wq.alloc (.cells #[.int .i64 p.1] 3)).drew A2 c2 ((hpl ++ R.take i).map (·.1)) from GG.out.chg ((Chg.alloc (fun _ _ => False) wq (.cells #[.int .i64 p.1] 3)).drew) enc1_len fun _ _ _ h => h)
        have Rn := Lib.hid (show RdS enc1 1 (wq.alloc (.cells #[.int .i64 p.1] 3)).drew (some ⟨wq.heap.size, 0, none⟩) [p.1] from (RdS.new1 enc1 1 wq 3 p.1))
        have cq0 : wq.drew.cell? ⟨Q, 2, none⟩ = some (.slice A2 hq c2) := by show wq.cell? _ = _; rw [HS.out.cell (by omega), VI.out]
        have cq1 : (wq.alloc (.cells #[.int .i64 p.1] 3)).drew.cell? ⟨Q, 2, none⟩ = some (.slice A2 hq c2) := by rw [Sa.out.cell (by omega), VI.out]
        have SF0 := Lib.hid (show wq.drew.cell? (ad.add i) = some (.int .i64 p.1) from SRC.out.1)
        have SFa := Lib.hid (show (wq.alloc (.cells #[.int .i64 p.1] 3)).drew.cell? (ad.add i) = some (.int .i64 p.1) from ((Chg.alloc (fun _ _ => False) wq (.cells #[.int .i64 p.1] 3)).drew).cellp (fun _ h => h) SRC.out.1)
        refine wp_region_noPanic ?_
        refine wp_region_held_drew (S := fun w' => w'.cell? (ad.add i) = some (.int .i64 p.1)) (by kernel_rfl) (SF0.out) (fun hHeld => ?_)
        refine take_on (i := 0) (some 50) (v := ?vr13) rfl rfl (by kernel_rfl) (by kernel_rfl) (by kernel_rfl) (fun _ _ _ h => h) (by rfl) ?hyr13 (by with_reducible exact hHeld) ?restr13
        case hyr13 => (intro wS hSw; (try dsimp only at hSw); go_simp; try with_reducible rfl)
        try simp only [Act.put, List.setIfInBounds_toArray, List.set_cons_zero, List.set_cons_succ]
        refine take_on (i := 1) (some 51) (v := ?vr14) rfl rfl (by kernel_rfl) (by kernel_rfl) (by kernel_rfl) (fun _ _ _ h => h) (by rfl) ?hyr14 (by with_reducible exact hHeld) ?restr14
        case hyr14 => (intro wS hSw; (try dsimp only at hSw); go_simp; try with_reducible rfl)
        try simp only [Act.put, List.setIfInBounds_toArray, List.set_cons_zero, List.set_cons_succ]
        refine take_on (i := 2) (some 52) (v := ?vr15) rfl rfl (by kernel_rfl) (by kernel_rfl) (by kernel_rfl) (fun _ _ _ h => h) (by rfl) ?hyr15 (by with_reducible exact hHeld) ?restr15
        case hyr15 => (intro wS hSw; (try dsimp only at hSw); go_simp; try with_reducible rfl)
        try simp only [Act.put, List.setIfInBounds_toArray, List.set_cons_zero, List.set_cons_succ]
        refine take_on (i := 3) (some 53) (v := ?vr16) rfl rfl (by kernel_rfl) (by kernel_rfl) (by kernel_rfl) (fun _ _ _ h => h) (by rfl) ?hyr16 (by with_reducible exact hHeld) ?restr16
        case hyr16 => (intro wS hSw; (try dsimp only at hSw); go_simp; try with_reducible rfl)
        try simp only [Act.put, List.setIfInBounds_toArray, List.set_cons_zero, List.set_cons_succ]
        refine take_on (i := 5) (some 55) (v := ?vr17) rfl rfl (by kernel_rfl) (by kernel_rfl) (by kernel_rfl) (fun _ _ _ h => h) (by rfl) ?hyr17 (by with_reducible exact hHeld) ?restr17
        case hyr17 => (intro wS hSw; (try dsimp only at hSw); go_simp; try with_reducible rfl)
        try simp only [Act.put, List.setIfInBounds_toArray, List.set_cons_zero, List.set_cons_succ]
        refine take_on (i := 6) (some 56) (v := ?vr18) rfl rfl (by kernel_rfl) (by kernel_rfl) (by kernel_rfl) (fun _ _ _ h => h) (by rfl) ?hyr18 (by with_reducible exact hHeld) ?restr18
        case hyr18 => (intro wS hSw; (try dsimp only at hSw); go_simp; try with_reducible rfl)
        try simp only [Act.put, List.setIfInBounds_toArray, List.set_cons_zero, List.set_cons_succ]
        refine take_on (i := 7) (some 57) (v := ?vr19) rfl rfl (by kernel_rfl) (by kernel_rfl) (by kernel_rfl) (fun _ _ _ h => h) (by rfl) ?hyr19 (by with_reducible exact hHeld) ?restr19
        case hyr19 => (intro wS hSw; (try dsimp only at hSw); go_simp; try with_reducible rfl)
        try simp only [Act.put, List.setIfInBounds_toArray, List.set_cons_zero, List.set_cons_succ]
        refine take_on (i := 8) (some 58) (v := ?vr20) rfl rfl (by kernel_rfl) (by kernel_rfl) (by kernel_rfl) (fun _ _ _ h => h) (by rfl) ?hyr20 (by with_reducible exact hHeld) ?restr20
        case hyr20 => (intro wS hSw; (try dsimp only at hSw); go_simp; try with_reducible rfl)
        try simp only [Act.put, List.setIfInBounds_toArray, List.set_cons_zero, List.set_cons_succ]
        refine wpAnyH_ready (rs := [4, 9]) (by kernel_rfl) (by simp) ?_
        refine AllReadyH.cons rfl (fun K hK => ?_) ?_
        · go_simp
          refine hK.out _ _ (SF0.out) (fun hHeld => ?_)
          clear hK K
          try simp only [Act.put, List.setIfInBounds_toArray, List.set_cons_zero, List.set_cons_succ]
          refine wpAnyH_ready (rs := [9]) (by kernel_rfl) (by simp) ?_
          refine AllReadyH.cons rfl (fun K hK => ?_) AllReadyH.nil
          go_simp
          refine hK.out _ _ (SFa.out) (fun hHeld => ?_)
          clear hK K
          try simp only [Act.put, List.setIfInBounds_toArray, List.set_cons_zero, List.set_cons_succ]
          refine wpAnyH_ready (rs := [10]) (by kernel_rfl) (by simp) ?_
          refine AllReadyH.cons rfl (fun K hK => ?_) AllReadyH.nil
          refine step_appendG intTy (by decide) enc1_len enc1_one (by rfl) (.tmp 54) (.tmp 59) (by rfl) A2 c2 ((hpl ++ R.take i).map (·.1)) (by rw [LN.out]; rfl) Ga.out (some ⟨wq.heap.size, 0, none⟩) 1 [p.1] (by rfl) Rn.out (by rw [LN.out]; simp only [maxLen, List.length_singleton]; omega) (by rw [LN.out]; simp only [List.length_singleton]; omega) ?_
          intro A' c' w2 h4 k4 q4
          have hlp : (((hpl ++ R.take i).map (·.1)) ++ [p.1]).length = hq + 1 := by rw [List.length_append, LN.out]; rfl
          obtain ⟨SP, CP, CP2, FP, cq2, fq2⟩ := Sa.out.app (i := 2) (by omega) LI.out (by rw [LN.out]; exact VI.out) h4 k4 q4
          rw [hlp] at SP CP2 FP ⊢
          rw [VI.out] at cq2
          have SF2 := Lib.hid (CP.cellp SRC.out.2 SFa.out)
          have SF3 := Lib.hid (CP2.cellp SRC.out.2 SFa.out)
          have HSP := Lib.hid SP
          have HC2 := Lib.hid (((Chg.alloc (fun k _ => LdF Q V1 k) wq (.cells #[.int .i64 p.1] 3)).drew).trans CP2 fun _ _ _ h => h)
          have HFP := Lib.hid (show ∀ k, LdF Q (upd V1 2 (.slice A' (hq + 1) c')) k → LdF Q V1 k ∨ wq.heap.size ≤ k from fun k hk => (FP k hk).imp id fun h => Nat.le_trans (by simp [World.drew]) h)
          clear h4 k4 q4 hlp SP CP CP2 FP
          refine hK.out _ _ SF2.out (fun hHeld => ?_)
          clear hK K
          try simp only [Act.put, List.setIfInBounds_toArray, List.set_cons_zero, List.set_cons_succ]
          refine take_on (i := 11) (some 61) (v := ?vr21) rfl rfl (by kernel_rfl) (by kernel_rfl) (by kernel_rfl) (fun _ _ _ h => h) (by rfl) ?hyr21 (by with_reducible exact hHeld) ?restr21
          case hyr21 => (intro wS hSw; (try dsimp only at hSw); go_simp; try with_reducible rfl)
          try simp only [Act.put, List.setIfInBounds_toArray, List.set_cons_zero, List.set_cons_succ]
          refine take_on (i := 12) (some 62) (v := ?vr22) rfl rfl (by kernel_rfl) (by kernel_rfl) (by kernel_rfl) (fun _ _ _ h => h) (by rfl) ?hyr22 (by with_reducible exact hHeld) ?restr22
          case hyr22 => (intro wS hSw; (try dsimp only at hSw); go_simp; try with_reducible rfl)
          try simp only [Act.put, List.setIfInBounds_toArray, List.set_cons_zero, List.set_cons_succ]
          refine wpAnyH_ready (rs := [13]) (by kernel_rfl) (by simp) ?_
          refine AllReadyH.cons rfl (fun K hK => ?_) AllReadyH.nil
          go_simp
          refine hK.out _ _ (SF3.out) (fun hHeld => ?_)
          clear hK K
          try simp only [Act.put, List.setIfInBounds_toArray, List.set_cons_zero, List.set_cons_succ]
          refine wpAnyH_done (by kernel_rfl) ?_ _
          refine NoPanic.normal ?_
          have HS5 := Lib.hid (HSP.out.congr (L' := LdL R ((hpl ++ R.take (i + 1)).map (·.1))) fun j hj => by
            match j, hj with
            | 0, _ => rfl
            | 1, _ => rfl
            | 2, _ =>
              show (hpl ++ R.take i).map (·.1) ++ [p.1] = (hpl ++ R.take (i + 1)).map (·.1)
              rw [HTK.out]
              simp)
          have HC5 := Lib.hid (hC.out.trans HC2.out fun k _ hk hf => by
            rcases hF.out k hf with h1 | h1
            · exact h1
            · omega)
          have HF5 := Lib.hid (show ∀ k, LdF Q (upd V1 2 (.slice A' (hq + 1) c')) k → LdF Q V k ∨ w.heap.size ≤ k from fun k hk => by
            rcases HFP.out k hk with h1 | h1
            · exact hF.out k h1
            · exact .inr (Nat.le_trans hC.out.size h1))
          clear HSP HC2 HFP
          go_wp2
          go_roundw
          case rel => exact ⟨i + 1, _, by omega, by go_num, HNX, HS5, HC5, HF5⟩
          case measure => simp [intOf]; omega
        · refine AllReadyH.cons rfl (fun K hK => ?_) AllReadyH.nil
          go_simp
          refine hK.out _ _ (SFa.out) (fun hHeld => ?_)
          clear hK K
          try simp only [Act.put, List.setIfInBounds_toArray, List.set_cons_zero, List.set_cons_succ]
          refine wpAnyH_ready (rs := [4]) (by kernel_rfl) (by simp) ?_
          refine AllReadyH.cons rfl (fun K hK => ?_) AllReadyH.nil
          go_simp
          refine hK.out _ _ (SFa.out) (fun hHeld => ?_)
          clear hK K
          try simp only [Act.put, List.setIfInBounds_toArray, List.set_cons_zero, List.set_cons_succ]
          refine wpAnyH_ready (rs := [10]) (by kernel_rfl) (by simp) ?_
          refine AllReadyH.cons rfl (fun K hK => ?_) AllReadyH.nil
          refine step_appendG intTy (by decide) enc1_len enc1_one (by rfl) (.tmp 54) (.tmp 59) (by rfl) A2 c2 ((hpl ++ R.take i).map (·.1)) (by rw [LN.out]; rfl) Ga.out (some ⟨wq.heap.size, 0, none⟩) 1 [p.1] (by rfl) Rn.out (by rw [LN.out]; simp only [maxLen, List.length_singleton]; omega) (by rw [LN.out]; simp only [List.length_singleton]; omega) ?_
          intro A' c' w2 h4 k4 q4
          have hlp : (((hpl ++ R.take i).map (·.1)) ++ [p.1]).length = hq + 1 := by rw [List.length_append, LN.out]; rfl
          obtain ⟨SP, CP, CP2, FP, cq2, fq2⟩ := Sa.out.app (i := 2) (by omega) LI.out (by rw [LN.out]; exact VI.out) h4 k4 q4
          rw [hlp] at SP CP2 FP ⊢
          rw [VI.out] at cq2
          have SF2 := Lib.hid (CP.cellp SRC.out.2 SFa.out)
          have SF3 := Lib.hid (CP2.cellp SRC.out.2 SFa.out)
          have HSP := Lib.hid SP
          have HC2 := Lib.hid (((Chg.alloc (fun k _ => LdF Q V1 k) wq (.cells #[.int .i64 p.1] 3)).drew).trans CP2 fun _ _ _ h => h)
          have HFP := Lib.hid (show ∀ k, LdF Q (upd V1 2 (.slice A' (hq + 1) c')) k → LdF Q V1 k ∨ wq.heap.size ≤ k from fun k hk => (FP k hk).imp id fun h => Nat.le_trans (by simp [World.drew]) h)
          clear h4 k4 q4 hlp SP CP CP2 FP
          refine hK.out _ _ SF2.out (fun hHeld => ?_)
          clear hK K
          try simp only [Act.put, List.setIfInBounds_toArray, List.set_cons_zero, List.set_cons_succ]
          refine take_on (i := 11) (some 61) (v := ?vr23) rfl rfl (by kernel_rfl) (by kernel_rfl) (by kernel_rfl) (fun _ _ _ h => h) (by rfl) ?hyr23 (by with_reducible exact hHeld) ?restr23
          case hyr23 => (intro wS hSw; (try dsimp only at hSw); go_simp; try with_reducible rfl)
          try simp only [Act.put, List.setIfInBounds_toArray, List.set_cons_zero, List.set_cons_succ]
          refine take_on (i := 12) (some 62) (v := ?vr24) rfl rfl (by kernel_rfl) (by kernel_rfl) (by kernel_rfl) (fun _ _ _ h => h) (by rfl) ?hyr24 (by with_reducible exact hHeld) ?restr24
          case hyr24 => (intro wS hSw; (try dsimp only at hSw); go_simp; try with_reducible rfl)
          try simp only [Act.put, List.setIfInBounds_toArray, List.set_cons_zero, List.set_cons_succ]
          refine wpAnyH_ready (rs := [13]) (by kernel_rfl) (by simp) ?_
          refine AllReadyH.cons rfl (fun K hK => ?_) AllReadyH.nil
          go_simp
          refine hK.out _ _ (SF3.out) (fun hHeld => ?_)
          clear hK K
          try simp only [Act.put, List.setIfInBounds_toArray, List.set_cons_zero, List.set_cons_succ]
          refine wpAnyH_done (by kernel_rfl) ?_ _
          refine NoPanic.normal ?_
          have HS5 := Lib.hid (HSP.out.congr (L' := LdL R ((hpl ++ R.take (i + 1)).map (·.1))) fun j hj => by
            match j, hj with
            | 0, _ => rfl
            | 1, _ => rfl
            | 2, _ =>
              show (hpl ++ R.take i).map (·.1) ++ [p.1] = (hpl ++ R.take (i + 1)).map (·.1)
              rw [HTK.out]
              simp)
          have HC5 := Lib.hid (hC.out.trans HC2.out fun k _ hk hf => by
            rcases hF.out k hf with h1 | h1
            · exact h1
            · omega)
          have HF5 := Lib.hid (show ∀ k, LdF Q (upd V1 2 (.slice A' (hq + 1) c')) k → LdF Q V k ∨ w.heap.size ≤ k from fun k hk => by
            rcases HFP.out k hk with h1 | h1
            · exact hF.out k h1
            · exact .inr (Nat.le_trans hC.out.size h1))
          clear HSP HC2 HFP
          go_wp2
          go_roundw
          case rel => exact ⟨i + 1, _, by omega, by go_num, HNX, HS5, HC5, HF5⟩
          case measure => simp [intOf]; omega
    · obtain rfl : i = gn := by omega
      have hco2 := hco.out
      rw [show g.drop i = [] from List.drop_of_length_le (by rw [HG.out]; exact Nat.le_refl _)] at hco2
      obtain ⟨e5, e6⟩ := come_nil hco2
      have HS := hS
      have H2 := Lib.hid e5
      have HR2 := Lib.hid e6
      have hir : (i : Int) ≤ (rn : Int) := by omega
      have GW := Lib.hid G0s.out
      clear hco2 e5 e6 hco
      have f0 := HS.out.blk.frozen 0
      have f1 := HS.out.blk.frozen 1
      have hhir : i ≤ rn := by omega
      have hq0 : rn - i ≠ 0 → 0 < hq := fun h => by
        have h1 : R2 ≠ [] := by
          rw [HR2.out]
          intro e
          have := congrArg List.length e
          rw [List.length_drop, HR.out] at this
          exact h this
        have h3 := List.length_pos_iff.2 (HNE.out h1)
        have h4 := HHQ.out
        rw [H2.out] at h3
        rw [h4]
        show 0 < ((hpl ++ R.take i).map (·.1)).length
        rw [List.length_map]
        exact h3
      clear HHQ
      have hq0' := Lib.hid hq0
      clear hq0 hgr hgr' hlt hi
      obtain ⟨VD, D1, D2, D3⟩ := HS.out.cut (E0.out.trans (by rw [show (LdL R ((hpl ++ R.take i).map (·.1)) 0).length = rn from by rw [← HR.out]; exact List.length_map _])) (E1.out.trans (by rw [show (LdL R ((hpl ++ R.take i).map (·.1)) 1).length = rn from by rw [← HR.out]; exact List.length_map _])) hhir
      by_cases hc0 : c0 = i
      · by_cases hc1 : c1 = i
        · by_cases hz : rn - i = 0
          · rw [if_pos hc0, show c0 - i = 0 by omega] at D1 D2
            rw [if_pos hc1, show c1 - i = 0 by omega] at D1 D2
            rw [hz] at D1 D2
            have D1 := Lib.hid D1
            have D2 := Lib.hid D2
            have D3 := Lib.hid D3
            clear hq0'
            go_wp2
            go_ret
            exact ⟨rfl, VD, by rw [HR2.out, H2.out]; exact D1.out, hC.out.trans D2.out fun k _ hk hf => (hF.out k hf).resolve_right (by omega), fun k hk => hF.out k (D3.out k hk)⟩
          · rw [if_pos hc0, show c0 - i = 0 by omega] at D1 D2
            rw [if_pos hc1, show c1 - i = 0 by omega] at D1 D2
            have hpos : (0 : Int) < (hq : Int) := by have := hq0'.out hz; omega
            have D1 := Lib.hid D1
            have D2 := Lib.hid D2
            have D3 := Lib.hid D3
            clear hq0'
            go_wp2
            go_ret
            exact ⟨by show Ending.returned (Value.bool ((((rn - i : Nat) : Int) == 0) || decide (0 < hq))) = _; rw [decide_eq_true (show 0 < hq by omega), Bool.or_true], VD, by rw [HR2.out, H2.out]; exact D1.out, hC.out.trans D2.out fun k _ hk hf => (hF.out k hf).resolve_right (by omega), fun k hk => hF.out k (D3.out k hk)⟩
        · by_cases hz : rn - i = 0
          · rw [if_pos hc0, show c0 - i = 0 by omega] at D1 D2
            rw [if_neg hc1] at D1 D2
            rw [hz] at D1 D2
            have D1 := Lib.hid D1
            have D2 := Lib.hid D2
            have D3 := Lib.hid D3
            clear hq0'
            go_wp2
            go_ret
            exact ⟨rfl, VD, by rw [HR2.out, H2.out]; exact D1.out, hC.out.trans D2.out fun k _ hk hf => (hF.out k hf).resolve_right (by omega), fun k hk => hF.out k (D3.out k hk)⟩
          · rw [if_pos hc0, show c0 - i = 0 by omega] at D1 D2
            rw [if_neg hc1] at D1 D2
            have hpos : (0 : Int) < (hq : Int) := by have := hq0'.out hz; omega
            have D1 := Lib.hid D1
            have D2 := Lib.hid D2
            have D3 := Lib.hid D3
            clear hq0'
            go_wp2
            go_ret
            exact ⟨by show Ending.returned (Value.bool ((((rn - i : Nat) : Int) == 0) || decide (0 < hq))) = _; rw [decide_eq_true (show 0 < hq by omega), Bool.or_true], VD, by rw [HR2.out, H2.out]; exact D1.out, hC.out.trans D2.out fun k _ hk hf => (hF.out k hf).resolve_right (by omega), fun k hk => hF.out k (D3.out k hk)⟩
      · by_cases hc1 : c1 = i
        · by_cases hz : rn - i = 0
          · rw [if_neg hc0] at D1 D2
            rw [if_pos hc1, show c1 - i = 0 by omega] at D1 D2
            rw [hz] at D1 D2
            have D1 := Lib.hid D1
            have D2 := Lib.hid D2
            have D3 := Lib.hid D3
            clear hq0'
            go_wp2
            go_ret
            exact ⟨rfl, VD, by rw [HR2.out, H2.out]; exact D1.out, hC.out.trans D2.out fun k _ hk hf => (hF.out k hf).resolve_right (by omega), fun k hk => hF.out k (D3.out k hk)⟩
          · rw [if_neg hc0] at D1 D2
            rw [if_pos hc1, show c1 - i = 0 by omega] at D1 D2
            have hpos : (0 : Int) < (hq : Int) := by have := hq0'.out hz; omega
            have D1 := Lib.hid D1
            have D2 := Lib.hid D2
            have D3 := Lib.hid D3
            clear hq0'
            go_wp2
            go_ret
            exact ⟨by show Ending.returned (Value.bool ((((rn - i : Nat) : Int) == 0) || decide (0 < hq))) = _; rw [decide_eq_true (show 0 < hq by omega), Bool.or_true], VD, by rw [HR2.out, H2.out]; exact D1.out, hC.out.trans D2.out fun k _ hk hf => (hF.out k hf).resolve_right (by omega), fun k hk => hF.out k (D3.out k hk)⟩
        · by_cases hz : rn - i = 0
          · rw [if_neg hc0] at D1 D2
            rw [if_neg hc1] at D1 D2
            rw [hz] at D1 D2
            have D1 := Lib.hid D1
            have D2 := Lib.hid D2
            have D3 := Lib.hid D3
            clear hq0'
            go_wp2
            go_ret
            exact ⟨rfl, VD, by rw [HR2.out, H2.out]; exact D1.out, hC.out.trans D2.out fun k _ hk hf => (hF.out k hf).resolve_right (by omega), fun k hk => hF.out k (D3.out k hk)⟩
          · rw [if_neg hc0] at D1 D2
            rw [if_neg hc1] at D1 D2
            have hpos : (0 : Int) < (hq : Int) := by have := hq0'.out hz; omega
            have D1 := Lib.hid D1
            have D2 := Lib.hid D2
            have D3 := Lib.hid D3
            clear hq0'
            go_wp2
            go_ret
            exact ⟨by show Ending.returned (Value.bool ((((rn - i : Nat) : Int) == 0) || decide (0 < hq))) = _; rw [decide_eq_true (show 0 < hq by omega), Bool.or_true], VD, by rw [HR2.out, H2.out]; exact D1.out, hC.out.trans D2.out fun k _ hk hf => (hF.out k hf).resolve_right (by omega), fun k hk => hF.out k (D3.out k hk)⟩
end Go.Proofs.Ytkjbjfjgnponfaa
