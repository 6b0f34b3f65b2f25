/- Package replicalaw10: the Book: write, by contract. -/
import Derived.Test.YtagkhhoimgighaaTlBh
namespace Go.Proofs.Ytagkhhoimgighaa
open Go.RowKit
set_option linter.unusedVariables false
set_option linter.unusedSimpArgs false
theorem slTy2 : SlTy Try.prog 52 27 1 24 := SlTy.mk' (z := .slice none 0 0) Try.underlying52 (by kernel_rfl) rfl
theorem step_store_mid {P : Program} {w : World} {ops : Array Oper} {o : Oper} {a : Act} {K : Act → World → Prop} {Q : Exit → Act → World → Prop} {E : Prop} (hgd : o.guard = none) (ty : TypeId) (x y : Operand) (ho : o.op = .store ty x y)
    (b off : Nat) (cells : Array Value) (hx : a.eval x = .pointer (some ⟨b, off, none⟩)) (hy : a.eval y = .agg cells) (ht : w.there b off cells.size) (hi : (P.info? ty).map (·.size) = some cells.size) (h1 : cells.all (·.oneCell') = true)
    (h : K (a.put o.dst undef) (w.setCells b off cells.toList)) : if Region.wanted o (yielded ops a.tmps) = true then Oper.wp P o a w K Q else E := by
  rw [if_pos (by simp [Region.wanted, hgd])]
  exact wp_store_mid ty x y ho b off cells hx hy ht hi h1 h
/-- an element of a slice is written -/
theorem GSl.setEl {α : Type} {enc : α → List Value} {sz : Nat} {e : TypeId} {w : World} {g o c : Nat} {l : List α} (h : GSl enc sz e w (some ⟨g, o, none⟩) c l) (hsz : ∀ x, (enc x).length = sz) {i : Nat} (hi : i < l.length) (y : α) :
    GSl enc sz e (w.setCells g (o + i * sz) (enc y)) (some ⟨g, o, none⟩) c (l.set i y) ∧ w.there g (o + i * sz) sz ∧ Chg (slFp sz (some ⟨g, o, none⟩) 0 l.length) w (w.setCells g (o + i * sz) (enc y)) := by
  rcases h with ⟨h, _⟩ | ⟨g', o', cs, ha, k1, k2, k3, k4, k5⟩
  · cases h
  cases ha
  have hic : (i + 1) * sz ≤ l.length * sz := Nat.mul_le_mul_right _ hi
  have hlc : l.length * sz ≤ c * sz := Nat.mul_le_mul_right _ k1
  rw [Nat.add_mul] at hic
  obtain ⟨cs', r1, r2, r3, r4⟩ := setCells_row (enc y) (o + i * sz) w g cs e (0, 0) k3
  refine ⟨.inr ⟨g, o, cs', rfl, by rw [List.length_set]; exact k1, k2, r1, by omega, fun k z hz q v hv => ?_⟩, fun j hj => ⟨?_, by simp [World.frozen?, k3]⟩, setCells_chg _ _ _ _ _ fun k hk1 hk2 => ⟨o, rfl, by omega, by rw [hsz] at hk2; omega⟩⟩
  · have hk := (List.getElem?_eq_some_iff.1 hz).1
    have hq := (List.getElem?_eq_some_iff.1 hv).1
    rw [hsz] at hq
    rw [List.length_set] at hk
    by_cases e1 : k = i
    · subst e1
      rw [List.getElem?_set_self hi] at hz
      cases hz
      have := r4 (by rw [hsz]; omega) q v hv
      rwa [Nat.add_assoc] at this
    · rw [List.getElem?_set_ne (fun e => e1 e.symm)] at hz
      rw [r3 _ (by
        rw [hsz]
        rcases Nat.lt_or_ge k i with h | h
        · have : (k + 1) * sz ≤ i * sz := Nat.mul_le_mul_right _ h
          rw [Nat.add_mul] at this
          omega
        · have : (i + 1) * sz ≤ k * sz := Nat.mul_le_mul_right _ (by omega)
          rw [Nat.add_mul] at this
          omega)]
      exact k5 k z hz q v hv
  · rw [cell_of_row w g _ cs e (0, 0) k3, Array.getElem?_eq_getElem (by omega)]
    rfl
/-- a list has been put behind one of the four -/
structure Pushed (B : Nat) (mk : Int) (i : Fin 4) (p : PV) (v wx : World) (V V' : Fin 4 → RV) : Prop where
  bk : BkR wx B mk V'
  oth : ∀ j, j ≠ i → V' j = V j
  self : (V' i).P = (V i).P ++ [p]
  chg : Chg (fun k _ => k = B ∨ blkOf (V i).A k) v wx
  new : ∀ k, blkOf (V' i).A k → blkOf (V i).A k ∨ v.heap.size ≤ k
theorem BkR.pushed {v v2 w8 : World} {B : Nat} {mk : Int} {V : Fin 4 → RV} (h : BkR v B mk V) (hB : Below v.heap.size v v2) (i : Fin 4) {p : PV} {A6 : Option Addr} {c6 : Nat} (h8 : GSl encP 1 27 w8 A6 c6 ((V i).P ++ [p])) (k8 : Chg (slFp 1 (V i).A (V i).P.length (V i).c) v2 w8)
    (q8 : (A6 = (V i).A ∧ c6 = (V i).c) ∨ ∃ g, A6 = some ⟨g, 0, none⟩ ∧ v2.heap.size ≤ g) (hp : okP v2 p) (hf : i = 0 → p.c = p.n) (ha : ∀ j, ∀ q ∈ (V j).P, (j = 0 ∨ i = 0) → apart q p) :
    ∃ V', Pushed B mk i p v (w8.setCell ⟨B, i.val, none⟩ (.slice A6 ((V i).P ++ [p]).length c6)) V V' ∧ w8.cell? ⟨B, i.val, none⟩ = some (.slice (V i).A (V i).P.length (V i).c) ∧ w8.frozen? ⟨B, i.val, none⟩ = false := by
  obtain ⟨P1, P2, P3, P4⟩ := (h.below hB).push i h8 k8 q8 hp hf ha
  refine ⟨_, ⟨P1, fun j hj => upd_ne _ _ hj, by rw [upd_self], (Chg.of_below (fun k _ => k = B ∨ blkOf (V i).A k) hB).trans P2 fun _ _ _ h => h, fun k hk => ?_⟩, P3, P4⟩
  rw [upd_self] at hk
  have hk : blkOf A6 k := hk
  rcases q8 with ⟨e, _⟩ | ⟨g, e, hg⟩
  · rw [e] at hk; exact .inl hk
  · obtain ⟨a, e2, rfl⟩ := hk
    rw [e] at e2
    cases e2
    exact .inr (Nat.le_trans hB.size hg)
theorem okP.below {w w' : World} {p : PV} (h : okP w p) (hB : Below w.heap.size w w') : okP w' p := h.chg (Chg.of_below (fun _ _ => False) hB) fun _ _ _ h => h
theorem Pushed.okP {B : Nat} {mk : Int} {i : Fin 4} {p q : PV} {v wx : World} {V V' : Fin 4 → RV} (hP : Pushed B mk i p v wx V V') (hb : BkR v B mk V) (ho : okP v q) : Go.Proofs.Ytagkhhoimgighaa.okP wx q := ho.chg hP.chg fun k j hk e => by
  obtain ⟨cs, hc⟩ := ho.cells hk
  rcases e with e | e
  · exact blk_type_ne hc hb.blk (by decide) e
  · obtain ⟨cs2, hc2⟩ := row_blk (hb.row i) e
    exact blk_type_ne hc hc2 (by decide) rfl
theorem GSl.empty {α : Type} (enc : α → List Value) (sz : Nat) (e : TypeId) (w : World) : GSl enc sz e (w.alloc (.cells #[] e)) (some ⟨w.heap.size, 0, none⟩) 0 [] :=
  .inr ⟨_, 0, #[], rfl, Nat.le_refl _, by simp [maxLen], Blk.new w e #[], by simp, fun i x h => by simp at h⟩
theorem BkR.mono_fp {w : World} {B : Nat} {mk : Int} {V : Fin 4 → RV} (h : BkR w B mk V) {k i : Nat} (hk : BkF V B k i) : k < w.heap.size := h.fp_lt hk
set_option maxRecDepth 20000 in
set_option maxHeartbeats 16000000 in
theorem write_any (B n kn : Nat) (mk : Int) (V : Fin 4 → RV) (A : Option Addr) (l : List Ent3) (w : World) (h : BkR w B mk V) (h0 : (V 0).P = []) (hl23 : (V 2).P.map PV.l = (V 3).P.map PV.l) (hp : okP w ⟨A, n, n, l⟩) (hn : n ≤ 2000) (hkn : (V 2).P.length = kn) (hkb : kn ≤ 1000000000)
    (hm : 0 ≤ mk ∧ mk ≤ 1000000000000) (hap : ∀ k i, cellsP ⟨A, n, n, l⟩ k i → ¬ BkF V B k i) :
    Calls Try.prog 49 #[.pointer (some ⟨B, 0, none⟩), .slice A n n] w fun e w' => e = .returned (.tuple #[]) ∧ ∃ V' : Fin 4 → RV, BkR w' B (mk + 1) V' ∧ V' 0 = V 0 ∧ V' 1 = V 1 ∧ (V' 2).P.map PV.l = (V' 3).P.map PV.l ∧ (V' 2).P.length = kn + 2 ∧
      Chg (fun k i => BkF V B k i ∨ cellsP ⟨A, n, n, l⟩ k i) w w' ∧ (∀ k i, BkF V' B k i → BkF V B k i ∨ cellsP ⟨A, n, n, l⟩ k i ∨ w.heap.size ≤ k) := by
  have b4 : w.cell? ⟨B, 4, none⟩ = some (.int .i64 mk) := h.blk.cell 4
  have z4 := h.blk.frozen 4
  obtain ⟨m, hme⟩ : ∃ m, m = mk + 1 := ⟨_, rfl⟩
  have hwr : IntKind.i64.wrap (mk + 1) = m := by rw [hme]; exact i64_in_ _ (by omega)
  have hmb : 1 ≤ m ∧ m ≤ 1000000000001 := by omega
  have hneg : IntKind.i64.wrap (-m) = -m := i64_in_ _ (by omega)
  obtain ⟨w1, hw1⟩ : ∃ W, W = w.setCell ⟨B, 4, none⟩ (.int .i64 m) := ⟨_, rfl⟩
  have H1 := h.setMark m
  have hc1 : Chg (fun k _ => k = B) w (w.setCell ⟨B, 4, none⟩ (.int .i64 m)) := Chg.setCell (fun k _ => k = B) w (g := B) (i := 4) rfl _
  have P1 := hp.chg hc1 fun k i hk e => hap k i hk (.inl e)
  rw [← hw1] at H1 P1 hc1
  have HH := Lib.hid H1
  have HP1 := Lib.hid P1
  have HC1 := Lib.hid hc1
  have HAP := Lib.hid hap
  have H23 := Lib.hid hl23
  have H00 := Lib.hid h0
  have HKN := Lib.hid hkn
  have HW1 := Lib.hid hw1.symm
  have HME := Lib.hid hme
  rw [← hme]
  have HPl := Lib.hid hp.2
  have HFL := Lib.hid (fun k i (hk : BkF V B k i) => h.fp_lt hk)
  have HCL := Lib.hid (fun k i (hk : cellsP ⟨A, n, n, l⟩ k i) => (by obtain ⟨cs, hb⟩ := hp.cells hk; exact hb.lt : k < w.heap.size))
  clear h hp hap hl23 h0 hkn H1 P1 hc1 hw1 hme
  go_enter Try.func49, Try.ntmps49
  go_upto_region 1 with fail
  rw [HW1.out]
  clear b4 z4 hwr HW1
  go_wp2_with fail
  go_loopw [4] (fun t4 wr => ∃ (i : Nat) (li : List Ent3), i ≤ n ∧ t4 = .int .i64 (i : Int) ∧ Hid (BkR wr B m V) ∧ Hid (okP wr ⟨A, n, n, li⟩) ∧ Hid (Chg (cellsP ⟨A, n, n, l⟩) w1 wr)) (fun t4 _ => n - (intOf t4).toNat)
  case atStart => exact ⟨0, l, Nat.zero_le _, rfl, HH, HP1, Lib.hid (Chg.refl _ _)⟩
  case round =>
    obtain ⟨i, li, hi, rfl, hB, hO, hC⟩ := hrel
    by_cases hli : i < n
    · have hli' : (i : Int) < (n : Int) := by omega
      have hln : li.length = n := hO.out.2
      obtain ⟨g, off, y, hA, hg, hy, hcell⟩ := hO.out.1.rds.at_ (show i < li.length by rw [hln]; exact hli)
      dsimp only at hA
      subst hA
      obtain ⟨S1, S2, S3⟩ := (show GSl encE 3 36 wr.drew (some ⟨g, off, none⟩) n li from hO.out.1).setEl encE_len (show i < li.length by rw [hln]; exact hli) (-m, (i : Int), m)
      have HS1 := Lib.hid S1
      have HS2 := Lib.hid S2
      rw [hln] at S3
      have HS3 := Lib.hid S3
      have c4 : wr.drew.cell? ⟨B, 4, none⟩ = some (.int .i64 m) := hB.out.blk.cell 4
      have HLN := Lib.hid hln
      clear S1 S2 S3 hcell hy hln
      go_wp2_with fail
      have SM := c4
      have SM2 := HS3.out.cell (fun hf => HAP.out _ _ hf (.inl rfl)) c4
      refine wp_region_noPanic ?_
      refine wp_region_held_drew (S := fun w' => w'.cell? ⟨B, 4, none⟩ = some (.int .i64 m)) (by kernel_rfl) (SM) (fun hHeld => ?_)
      refine take_on (i := 0) (some 20) (v := ?vr1) rfl rfl (by kernel_rfl) (by kernel_rfl) (by kernel_rfl) (fun _ _ _ h => h) (by rfl) ?hyr1 (by with_reducible exact hHeld) ?restr1
      case hyr1 => (intro wS hSw; (try dsimp only at hSw); go_simp; try with_reducible rfl)
      try simp only [Act.put, List.setIfInBounds_toArray, List.set_cons_zero, List.set_cons_succ]
      refine take_on (i := 1) (some 21) (v := ?vr2) rfl rfl (by kernel_rfl) (by kernel_rfl) (by kernel_rfl) (fun _ _ _ h => h) (by rfl) ?hyr2 (by with_reducible exact hHeld) ?restr2
      case hyr2 => (intro wS hSw; (try dsimp only at hSw); go_simp; try with_reducible rfl)
      try simp only [Act.put, List.setIfInBounds_toArray, List.set_cons_zero, List.set_cons_succ]
      refine take_on (i := 2) (some 22) (v := ?vr3) rfl rfl (by kernel_rfl) (by kernel_rfl) (by kernel_rfl) (fun _ _ _ h => h) (by rfl) ?hyr3 (by with_reducible exact hHeld) ?restr3
      case hyr3 => (intro wS hSw; (try dsimp only at hSw); go_simp; try with_reducible rfl)
      try simp only [Act.put, List.setIfInBounds_toArray, List.set_cons_zero, List.set_cons_succ]
      refine take_on (i := 3) (some 23) (v := ?vr4) rfl rfl (by kernel_rfl) (by kernel_rfl) (by kernel_rfl) (fun _ _ _ h => h) (by rfl) ?hyr4 (by with_reducible exact hHeld) ?restr4
      case hyr4 => (intro wS hSw; (try dsimp only at hSw); go_simp; try with_reducible rfl)
      try simp only [Act.put, List.setIfInBounds_toArray, List.set_cons_zero, List.set_cons_succ]
      refine take_on (i := 4) (some 24) (v := ?vr5) rfl rfl (by kernel_rfl) (by kernel_rfl) (by kernel_rfl) (fun _ _ _ h => h) (by rfl) ?hyr5 (by with_reducible exact hHeld) ?restr5
      case hyr5 => (intro wS hSw; (try dsimp only at hSw); go_simp; try with_reducible rfl)
      try simp only [Act.put, List.setIfInBounds_toArray, List.set_cons_zero, List.set_cons_succ]
      refine take_on (i := 5) (some 25) (v := ?vr6) rfl rfl (by kernel_rfl) (by kernel_rfl) (by kernel_rfl) (fun _ _ _ h => h) (by rfl) ?hyr6 (by with_reducible exact hHeld) ?restr6
      case hyr6 => (intro wS hSw; (try dsimp only at hSw); go_simp; try with_reducible rfl)
      try simp only [Act.put, List.setIfInBounds_toArray, List.set_cons_zero, List.set_cons_succ]
      refine take_on (i := 6) (some 26) (v := ?vr7) rfl rfl (by kernel_rfl) (by kernel_rfl) (by kernel_rfl) (fun _ _ _ h => h) (by rfl) ?hyr7 (by with_reducible exact hHeld) ?restr7
      case hyr7 => (intro wS hSw; (try dsimp only at hSw); go_simp; try with_reducible rfl)
      try simp only [Act.put, List.setIfInBounds_toArray, List.set_cons_zero, List.set_cons_succ]
      refine take_on (i := 7) (some 27) (v := ?vr8) rfl rfl (by kernel_rfl) (by kernel_rfl) (by kernel_rfl) (fun _ _ _ h => h) (by rfl) ?hyr8 (by with_reducible exact hHeld) ?restr8
      case hyr8 => (intro wS hSw; (try dsimp only at hSw); go_simp; try with_reducible rfl)
      try simp only [Act.put, List.setIfInBounds_toArray, List.set_cons_zero, List.set_cons_succ]
      refine take_on (i := 8) (some 28) (v := ?vr9) rfl rfl (by kernel_rfl) (by kernel_rfl) (by kernel_rfl) (fun _ _ _ h => h) (by rfl) ?hyr9 (by with_reducible exact hHeld) ?restr9
      case hyr9 => (intro wS hSw; (try dsimp only at hSw); go_simp; try with_reducible rfl)
      try simp only [Act.put, List.setIfInBounds_toArray, List.set_cons_zero, List.set_cons_succ]
      refine take_on (i := 9) (some 29) (v := ?vr10) rfl rfl (by kernel_rfl) (by kernel_rfl) (by kernel_rfl) (fun _ _ _ h => h) (by rfl) ?hyr10 (by with_reducible exact hHeld) ?restr10
      case hyr10 => (intro wS hSw; (try dsimp only at hSw); go_simp; try with_reducible rfl)
      try simp only [Act.put, List.setIfInBounds_toArray, List.set_cons_zero, List.set_cons_succ]
      refine take_on (i := 10) (some 30) (v := ?vr11) rfl rfl (by kernel_rfl) (by kernel_rfl) (by kernel_rfl) (fun _ _ _ h => h) (by rfl) ?hyr11 (by with_reducible exact hHeld) ?restr11
      case hyr11 => (intro wS hSw; (try dsimp only at hSw); go_simp; try with_reducible rfl)
      try simp only [Act.put, List.setIfInBounds_toArray, List.set_cons_zero, List.set_cons_succ]
      refine take_on (i := 11) (some 31) (v := ?vr12) rfl rfl (by kernel_rfl) (by kernel_rfl) (by kernel_rfl) (fun _ _ _ h => h) (by rfl) ?hyr12 (by with_reducible exact hHeld) ?restr12
      case hyr12 => (intro wS hSw; (try dsimp only at hSw); go_simp; try with_reducible rfl)
      try simp only [Act.put, List.setIfInBounds_toArray, List.set_cons_zero, List.set_cons_succ]
      refine take_on (i := 12) (some 32) (v := ?vr13) rfl rfl (by kernel_rfl) (by kernel_rfl) (by kernel_rfl) (fun _ _ _ h => h) (by rfl) ?hyr13 (by with_reducible exact hHeld) ?restr13
      case hyr13 => (intro wS hSw; (try dsimp only at hSw); go_simp; try with_reducible rfl)
      try simp only [Act.put, List.setIfInBounds_toArray, List.set_cons_zero, List.set_cons_succ]
      refine take_on (i := 13) (some 33) (v := ?vr14) rfl rfl (by kernel_rfl) (by kernel_rfl) (by kernel_rfl) (fun _ _ _ h => h) (by rfl) ?hyr14 (by with_reducible exact hHeld) ?restr14
      case hyr14 => (intro wS hSw; (try dsimp only at hSw); go_simp; try with_reducible rfl)
      try simp only [Act.put, List.setIfInBounds_toArray, List.set_cons_zero, List.set_cons_succ]
      refine wpAnyH_ready (rs := [14]) (by kernel_rfl) (by simp) ?_
      refine AllReadyH.cons rfl (fun K hK => ?_) AllReadyH.nil
      refine step_store_mid rfl 36 (.tmp 33) (.tmp 32) rfl g (off + i * 3) #[.int .i64 (-m), .int .i64 (i : Int), .int .i64 m] rfl rfl (by exact HS2.out) (entSz _ _ _) (one3 rfl rfl rfl) ?_
      refine hK.out _ _ (by exact SM2) (fun hHeld => ?_)
      clear hK K
      try simp only [Act.put, List.setIfInBounds_toArray, List.set_cons_zero, List.set_cons_succ]
      refine wpAnyH_done (by kernel_rfl) ?_ _
      refine NoPanic.normal ?_
      go_wp2
      have hC2 : Chg (cellsP ⟨some ⟨g, off, none⟩, n, n, l⟩) wr (wr.drew.setCells g (off + i * 3) (encE (-m, (i : Int), m))) := ((Chg.refl _ wr).drew).trans HS3.out fun _ _ _ h => h
      have B2 := Lib.hid (hB.out.chg hC2 fun k j hk hf => HAP.out k j hf hk)
      have O2 := Lib.hid (show okP (wr.drew.setCells g (off + i * 3) (encE (-m, (i : Int), m))) ⟨some ⟨g, off, none⟩, n, n, li.set i (-m, (i : Int), m)⟩ from ⟨HS1.out, by rw [List.length_set]; exact HLN.out⟩)
      have C2 := Lib.hid (hC.out.trans hC2 fun _ _ _ h => h)
      clear hC2
      go_wp2
      go_roundw
      case rel => exact ⟨i + 1, _, by omega, by go_num, B2, O2, C2⟩
      case measure => simp [intOf]; omega
    · obtain rfl : i = n := by omega
      obtain ⟨v1, hv1⟩ : ∃ v1, v1 = wr := ⟨_, rfl⟩
      subst hv1
      have hsz : w.heap.size ≤ v1.heap.size := Nat.le_trans HC1.out.size hC.out.size
      have stay := Lib.hid (fun wv (hBv : Chg (fun k _ => w.heap.size ≤ k) v1 wv) => (⟨hB.out.chg hBv (fun k i hk hle => by have := HFL.out k i hk; omega), hO.out.chg hBv fun k j hk hle => by have := HCL.out k j hk; omega⟩ : BkR wv B m V ∧ okP wv ⟨A, i, i, li⟩))
      go_wp2_with fail
      go_loopw [5, 6] (fun t5 t6 wv => ∃ (j : Nat) (Ag : Option Addr) (gc : Nat) (lg : List Ent3), j ≤ 80 ∧ t6 = .int .i64 (j : Int) ∧ t5 = .slice Ag (i + j) gc ∧ Hid (okP wv ⟨Ag, i + j, gc, lg⟩) ∧ Hid ((Ag = A ∧ gc = i ∧ j = 0) ∨ ∃ g, Ag = some ⟨g, 0, none⟩ ∧ w.heap.size ≤ g) ∧ Hid (Chg (fun k _ => w.heap.size ≤ k) v1 wv)) (fun _ t6 _ => 80 - (intOf t6).toNat)
      case atStart => exact ⟨0, A, i, li, Nat.zero_le _, rfl, rfl, hO, Lib.hid (.inl ⟨rfl, rfl, rfl⟩), Lib.hid (Chg.refl _ _)⟩
      case round =>
        obtain ⟨j, Ag, gc, lg, hj, rfl, rfl, hG, hloc, hBv⟩ := hrel
        obtain ⟨gn, hgn⟩ : ∃ gn, gn = i + j := ⟨_, rfl⟩
        rw [← hgn] at hG ⊢
        have hgb : gn ≤ 2080 := by omega
        have HGN := Lib.hid hgn
        obtain ⟨Bv, Ov⟩ := stay.out wr hBv.out
        have HBV := Lib.hid Bv
        have HOV := Lib.hid Ov
        have HLG := Lib.hid (show lg.length = gn from hG.out.2)
        clear Bv Ov hgn
        by_cases hlj : j < 80
        · have hlj' : (j : Int) < 80 := by omega
          have c4 : wr.drew.cell? ⟨B, 4, none⟩ = some (.int .i64 m) := HBV.out.blk.cell 4
          have KA : Below wr.heap.size wr (wr.drew.alloc (.cells #[.int .i64 (-m), .int .i64 m, .int .i64 (-1)] 36)) := ((Below.refl wr.heap.size wr).drew).alloc (Nat.le_refl _) _
          have c4' : (wr.drew.alloc (.cells #[.int .i64 (-m), .int .i64 m, .int .i64 (-1)] 36)).cell? ⟨B, 4, none⟩ = some (.int .i64 m) := (HBV.out.below KA).blk.cell 4
          have GA := Lib.hid (show GSl encE 3 36 (wr.drew.alloc (.cells #[.int .i64 (-m), .int .i64 m, .int .i64 (-1)] 36)) Ag gc lg from hG.out.1.chg (Chg.of_below (fun _ _ => False) KA) encE_len fun _ _ _ h => h)
          have Rn := Lib.hid (show RdS encE 3 (wr.drew.alloc (.cells #[.int .i64 (-m), .int .i64 m, .int .i64 (-1)] 36)) (some ⟨wr.heap.size, 0, none⟩) [(-m, m, -1)] from RdS.new1 encE 3 wr.drew 36 (-m, m, -1))
          have HKA := Lib.hid KA
          have HL9 := Lib.hid (show (lg ++ [(-m, m, -1)]).length = gn + 1 by rw [List.length_append, HLG.out]; rfl)
          clear KA
          go_wp2_with fail
          go_region_law (first | (refine step_appendG entTy (by decide) encE_len encE_one rfl (.tmp 39) (.tmp 50) rfl Ag gc lg (by rw [HLG.out]; rfl) (by exact GA.out) (some ⟨wr.heap.size, 0, none⟩) 1 [(-m, m, -1)] (by rfl) (by exact Rn.out) (by rw [HLG.out]; simp only [maxLen, List.length_singleton]; omega) (by rw [HLG.out]; simp only [List.length_singleton]; omega) ?_; intro A6 c6 w8 h8 k8 q8; rw [HL9.out]))
          all_goals
            have O8 := Lib.hid (show okP w8 ⟨A6, i + (j + 1), c6, lg ++ [(-m, m, -1)]⟩ from ⟨h8, by show (lg ++ [(-m, m, -1)]).length = i + (j + 1); rw [HL9.out, HGN.out]; rfl⟩)
            have L8 := Lib.hid (show (A6 = A ∧ c6 = i ∧ j + 1 = 0) ∨ ∃ g, A6 = some ⟨g, 0, none⟩ ∧ w.heap.size ≤ g from by
              have hs1 := hBv.out.size
              have hs2 := HKA.out.size
              rcases q8 with ⟨e1, e2⟩ | ⟨g2, e1, hg2⟩
              · rcases hloc.out with ⟨_, e4, e5⟩ | ⟨g3, e3, hg3⟩
                · exfalso
                  have := h8.le
                  rw [List.length_append, HLG.out, HGN.out, e2, e4] at this
                  simp at this
                  omega
                · exact .inr ⟨g3, by rw [e1, e3], hg3⟩
              · exact .inr ⟨g2, e1, Nat.le_trans hsz (Nat.le_trans hs1 (Nat.le_trans hs2 hg2))⟩)
            have C8 := Lib.hid (show Chg (fun k _ => w.heap.size ≤ k) v1 w8 from (hBv.out.trans (Chg.of_below (fun k _ => w.heap.size ≤ k) HKA.out) fun _ _ _ h => h).trans k8 fun k q hk hs => by
              obtain ⟨o, e, h3, h4⟩ := hs
              rcases hloc.out with ⟨_, e4, e5⟩ | ⟨g3, e3, hg3⟩
              · rw [HLG.out, HGN.out, e5] at h3
                rw [e4] at h4
                omega
              · rw [e3] at e; cases e; exact hg3)
            clear h8 k8 q8
            go_wp2
            go_roundw
            case rel => exact ⟨j + 1, A6, c6, _, by omega, by go_num, by rw [HGN.out]; rfl, O8, L8, C8⟩
            case measure => simp [intOf]; omega
        · obtain rfl : j = 80 := by omega
          obtain ⟨gg, hAg, hgg⟩ : ∃ g, Ag = some ⟨g, 0, none⟩ ∧ w.heap.size ≤ g := by
            rcases hloc.out with ⟨_, _, e⟩ | h
            · omega
            · exact h
          have HAg := Lib.hid hAg
          clear hAg
          have hl3 : (V 3).P.length = kn := by have := congrArg List.length H23.out; simp at this; rw [← this]; exact HKN.out
          have HK3 := Lib.hid hl3
          clear hl3
          have ba : wr.cell? ⟨B, 2, none⟩ = some (.slice (V 2).A kn (V 2).c) := by rw [← HKN.out]; exact HBV.out.cell 2
          have Gaa := Lib.hid (show GSl encP 1 27 (wr.alloc (.cells #[.slice A i i] 27)) (V 2).A (V 2).c (V 2).P from (HBV.out.row 2).chg (Chg.alloc (fun _ _ => False) wr (.cells #[.slice A i i] 27)) encP_len fun _ _ _ h => h)
          have Rna := Lib.hid (show RdS encP 1 (wr.alloc (.cells #[.slice A i i] 27)) (some ⟨wr.heap.size, 0, none⟩) [(⟨A, i, i, li⟩ : PV)] from RdS.new1 encP 1 wr 27 ⟨A, i, i, li⟩)
          have HLa := Lib.hid (show ((V 2).P ++ [(⟨A, i, i, li⟩ : PV)]).length = kn + 1 by rw [List.length_append, HKN.out]; rfl)
          go_upto_region 11 with (
            at_builtin
            refine wpList_appendG slTy2 (by decide) encP_len encP_one rfl (.tmp 56) (.tmp 58) rfl (V 2).A (V 2).c (V 2).P (by rw [HKN.out]; rfl) Gaa.out (some ⟨wr.heap.size, 0, none⟩) 1 [(⟨A, i, i, li⟩ : PV)] rfl Rna.out (by rw [HKN.out]; simp only [maxLen, List.length_singleton]; omega) (by rw [HKN.out]; simp only [List.length_singleton]; omega) ?_
            intro A6 c6 w8 h8 k8 q8
            rw [HLa.out]
            obtain ⟨Va, P1, P3, P4⟩ := HBV.out.pushed ((Below.refl wr.heap.size wr).alloc (Nat.le_refl _) (.cells #[.slice A i i] 27)) 2 h8 k8 q8 (HOV.out.below ((Below.refl wr.heap.size wr).alloc (Nat.le_refl _) (.cells #[.slice A i i] 27))) (fun e => absurd e (by decide)) (fun j q hq hj => by
            rcases hj with rfl | e
            · rw [H00.out] at hq; cases hq
            · exact absurd e (by decide))
            rw [HLa.out] at P1
            have P3' : w8.cell? ⟨B, 2, none⟩ = some (.slice (V 2).A kn (V 2).c) := by rw [← HKN.out]; exact P3
            have P4' : w8.frozen? ⟨B, 2, none⟩ = false := P4
            have HPa := Lib.hid (show Pushed B m 2 ⟨A, i, i, li⟩ wr (w8.setCell ⟨B, 2, none⟩ (.slice A6 (kn + 1) c6)) V Va from P1)
            clear h8 k8 q8 P1 P3 P4
            )
          obtain ⟨va, hva⟩ : ∃ u, u = w8.setCell ⟨B, 2, none⟩ (.slice A6 (kn + 1) c6) := ⟨_, rfl⟩
          rw [← hva] at HPa ⊢
          clear hva P3' P4' Gaa Rna ba
          have Ba := Lib.hid HPa.out.bk
          have Oa := Lib.hid (HPa.out.okP HBV.out HOV.out)
          have Ga := Lib.hid (HPa.out.okP HBV.out hG.out)
          have Za := Lib.hid (show (Va 0).P = [] by rw [HPa.out.oth 0 (by decide)]; exact H00.out)
          have Ka3 := Lib.hid (show (Va 3).P.length = kn by rw [HPa.out.oth 3 (by decide)]; exact HK3.out)
          have Ka2 := Lib.hid (show (Va 2).P.length = kn + 1 from by rw [HPa.out.self]; exact HLa.out)
          have cb : ∀ u, Below va.heap.size va u → u.cell? ⟨B, 3, none⟩ = some (.slice (Va 3).A kn (Va 3).c) := fun u hu => by rw [← Ka3.out]; exact (Ba.out.below hu).cell 3
          have CB := Lib.hid cb
          have BE := Lib.hid (show Below va.heap.size va (va.alloc (.cells #[] 36)).drew from ((Below.refl va.heap.size va).alloc (Nat.le_refl _) _).drew)
          have cb0 := CB.out va.drew (Below.refl _ _).drew
          have cb1 := CB.out _ BE.out
          have GE := Lib.hid (show GSl encE 3 36 (va.alloc (.cells #[] 36)).drew (some ⟨va.heap.size, 0, none⟩) 0 [] from (GSl.empty encE 3 36 va))
          have RE := Lib.hid (show RdS encE 3 (va.alloc (.cells #[] 36)).drew A li from (Oa.out.below BE.out).1.rds)
          have NL := Lib.hid (show li.length = i from Oa.out.2)
          clear cb
          go_cut [] (fun wx => ∃ (Aw : Option Addr) (cw : Nat) (Vb : Fin 4 → RV), Pushed B m 3 ⟨Aw, i, cw, li⟩ va wx Va Vb ∧ (∀ k, blkOf Aw k → va.heap.size ≤ k))
          case first =>
            refine wp_region_noPanic ?_
            refine wp_region_held_drew (S := fun w' => True) (by kernel_rfl) (trivial) (fun hHeld => ?_)
            refine take_on (i := 0) (some 62) (v := ?vr15) rfl rfl (by kernel_rfl) (by kernel_rfl) (by kernel_rfl) (fun _ _ _ h => h) (by rfl) ?hyr15 (by with_reducible exact hHeld) ?restr15
            case hyr15 => (intro wS hSw; (try dsimp only at hSw); go_simp; try with_reducible rfl)
            try simp only [Act.put, List.setIfInBounds_toArray, List.set_cons_zero, List.set_cons_succ]
            refine take_on (i := 1) (some 63) (v := ?vr16) rfl rfl (by kernel_rfl) (by kernel_rfl) (by kernel_rfl) (fun _ _ _ h => h) (by rfl) ?hyr16 (by with_reducible exact hHeld) ?restr16
            case hyr16 => (intro wS hSw; (try dsimp only at hSw); go_simp; try with_reducible rfl)
            try simp only [Act.put, List.setIfInBounds_toArray, List.set_cons_zero, List.set_cons_succ]
            refine take_on (i := 2) (some 64) (v := ?vr17) rfl rfl (by kernel_rfl) (by kernel_rfl) (by kernel_rfl) (fun _ _ _ h => h) (by rfl) ?hyr17 (by with_reducible exact hHeld) ?restr17
            case hyr17 => (intro wS hSw; (try dsimp only at hSw); go_simp; try with_reducible rfl)
            try simp only [Act.put, List.setIfInBounds_toArray, List.set_cons_zero, List.set_cons_succ]
            refine take_on (i := 3) (some 65) (v := ?vr18) rfl rfl (by kernel_rfl) (by kernel_rfl) (by kernel_rfl) (fun _ _ _ h => h) (by rfl) ?hyr18 (by with_reducible exact hHeld) ?restr18
            case hyr18 => (intro wS hSw; (try dsimp only at hSw); go_simp; try with_reducible rfl)
            try simp only [Act.put, List.setIfInBounds_toArray, List.set_cons_zero, List.set_cons_succ]
            refine take_on (i := 6) (some 68) (v := ?vr19) rfl rfl (by kernel_rfl) (by kernel_rfl) (by kernel_rfl) (fun _ _ _ h => h) (by rfl) ?hyr19 (by with_reducible exact hHeld) ?restr19
            case hyr19 => (intro wS hSw; (try dsimp only at hSw); go_simp; try with_reducible rfl)
            try simp only [Act.put, List.setIfInBounds_toArray, List.set_cons_zero, List.set_cons_succ]
            refine wpAnyH_ready (rs := [4, 5]) (by kernel_rfl) (by simp) ?_
            refine AllReadyH.cons rfl (fun K hK => ?_) ?_
            · go_simp
              refine hK.out _ _ trivial (fun hHeld => ?_)
              clear hK K
              try simp only [Act.put, List.setIfInBounds_toArray, List.set_cons_zero, List.set_cons_succ]
              refine wpAnyH_ready (rs := [5]) (by kernel_rfl) (by simp) ?_
              refine AllReadyH.cons rfl (fun K hK => ?_) AllReadyH.nil
              go_simp
              refine hK.out _ _ trivial (fun hHeld => ?_)
              clear hK K
              try simp only [Act.put, List.setIfInBounds_toArray, List.set_cons_zero, List.set_cons_succ]
              refine wpAnyH_ready (rs := [7]) (by kernel_rfl) (by simp) ?_
              refine AllReadyH.cons rfl (fun K hK => ?_) AllReadyH.nil
              refine step_appendG entTy (by decide) encE_len encE_one (by rfl) (.tmp 67) (.tmp 68) (by rfl) (some ⟨va.heap.size, 0, none⟩) 0 [] (by rfl) GE.out A i li (by rw [NL.out]; rfl) RE.out (by rw [NL.out]; simp only [maxLen, List.length_nil]; omega) (by rw [NL.out]; simp only [List.length_nil]; omega) ?_
              intro Aw cw wc h7 k7 q7
              rw [List.nil_append] at h7 ⊢
              rw [NL.out]
              have BC := Lib.hid (show Below va.heap.size va wc from BE.out.trans (k7.below (by simp [World.drew]) fun k i _ hf => by
                  obtain ⟨o, _, h3, h4⟩ := hf
                  simp at h3 h4
                  omega))
              have OC := Lib.hid (show okP wc ⟨Aw, i, cw, li⟩ from ⟨h7, NL.out⟩)
              have LC := Lib.hid (show ∀ k, blkOf Aw k → va.heap.size ≤ k from fun k hk => by
                  obtain ⟨a, e, rfl⟩ := hk
                  rcases q7 with ⟨e1, _⟩ | ⟨g, e1, hg⟩
                  · rw [e1] at e; cases e; exact Nat.le_refl _
                  · rw [e1] at e; cases e
                    simp [World.drew] at hg
                    show va.heap.size ≤ g
                    omega)
              have cb2 := CB.out wc BC.out
              have BD := Lib.hid (BC.out.trans (((Below.refl wc.heap.size wc).alloc (Nat.le_refl _) (.cells #[.slice Aw i cw] 27)).mono BC.out.size))
              have cb3 := CB.out _ BD.out
              have GD := Lib.hid (show GSl encP 1 27 (wc.alloc (.cells #[.slice Aw i cw] 27)) (Va 3).A (Va 3).c (Va 3).P from (Ba.out.below BD.out).row 3)
              have RD := Lib.hid (show RdS encP 1 (wc.alloc (.cells #[.slice Aw i cw] 27)) (some ⟨wc.heap.size, 0, none⟩) [(⟨Aw, i, cw, li⟩ : PV)] from RdS.new1 encP 1 wc 27 ⟨Aw, i, cw, li⟩)
              have HL9 := Lib.hid (show ((Va 3).P ++ [(⟨Aw, i, cw, li⟩ : PV)]).length = kn + 1 by rw [List.length_append, Ka3.out]; rfl)
              clear h7 k7 q7
              refine hK.out _ _ trivial (fun hHeld => ?_)
              clear hK K
              try simp only [Act.put, List.setIfInBounds_toArray, List.set_cons_zero, List.set_cons_succ]
              refine wpAnyH_ready (rs := [8]) (by kernel_rfl) (by simp) ?_
              refine AllReadyH.cons rfl (fun K hK => ?_) AllReadyH.nil
              go_simp
              refine hK.out _ _ trivial (fun hHeld => ?_)
              clear hK K
              try simp only [Act.put, List.setIfInBounds_toArray, List.set_cons_zero, List.set_cons_succ]
              refine wpAnyH_ready (rs := [9]) (by kernel_rfl) (by simp) ?_
              refine AllReadyH.cons rfl (fun K hK => ?_) AllReadyH.nil
              refine step_appendG slTy2 (by decide) encP_len encP_one (by rfl) (.tmp 66) (.tmp 70) (by rfl) (Va 3).A (Va 3).c (Va 3).P (by rw [Ka3.out]; rfl) GD.out (some ⟨wc.heap.size, 0, none⟩) 1 [(⟨Aw, i, cw, li⟩ : PV)] (by rfl) RD.out (by rw [Ka3.out]; simp only [maxLen, List.length_singleton]; omega) (by rw [Ka3.out]; simp only [List.length_singleton]; omega) ?_
              intro A9 c9 w9 h9 k9 q9
              rw [HL9.out]
              obtain ⟨Vb, P1, P3, P4⟩ := Ba.out.pushed BD.out 3 h9 k9 q9 (OC.out.below ((Below.refl wc.heap.size wc).alloc (Nat.le_refl _) _)) (fun e => absurd e (by decide)) (fun j q hq hj => by
                rcases hj with rfl | e
                · rw [Za.out] at hq; cases hq
                · exact absurd e (by decide))
              rw [HL9.out] at P1
              have P3' : w9.cell? ⟨B, 3, none⟩ = some (.slice (Va 3).A kn (Va 3).c) := by rw [← Ka3.out]; exact P3
              have P4' : w9.frozen? ⟨B, 3, none⟩ = false := P4
              have HPB := Lib.hid (show Pushed B m 3 ⟨Aw, i, cw, li⟩ va (w9.setCell ⟨B, 3, none⟩ (.slice A9 (kn + 1) c9)) Va Vb from P1)
              clear h9 k9 q9 P1 P3 P4
              refine hK.out _ _ trivial (fun hHeld => ?_)
              clear hK K
              try simp only [Act.put, List.setIfInBounds_toArray, List.set_cons_zero, List.set_cons_succ]
              refine take_on (i := 10) (some 72) (v := ?vr20) rfl rfl (by kernel_rfl) (by kernel_rfl) (by kernel_rfl) (fun _ _ _ h => h) (by rfl) ?hyr20 (by with_reducible exact hHeld) ?restr20
              case hyr20 => (intro wS hSw; (try dsimp only at hSw); go_simp; try with_reducible rfl)
              try simp only [Act.put, List.setIfInBounds_toArray, List.set_cons_zero, List.set_cons_succ]
              refine take_on (i := 11) (some 73) (v := ?vr21) rfl rfl (by kernel_rfl) (by kernel_rfl) (by kernel_rfl) (fun _ _ _ h => h) (by rfl) ?hyr21 (by with_reducible exact hHeld) ?restr21
              case hyr21 => (intro wS hSw; (try dsimp only at hSw); go_simp; try with_reducible rfl)
              try simp only [Act.put, List.setIfInBounds_toArray, List.set_cons_zero, List.set_cons_succ]
              refine wpAnyH_ready (rs := [12]) (by kernel_rfl) (by simp) ?_
              refine AllReadyH.cons rfl (fun K hK => ?_) AllReadyH.nil
              go_simp
              refine hK.out _ _ (trivial) (fun hHeld => ?_)
              clear hK K
              try simp only [Act.put, List.setIfInBounds_toArray, List.set_cons_zero, List.set_cons_succ]
              refine wpAnyH_done (by kernel_rfl) ?_ _
              refine NoPanic.normal ?_
              go_wp2
              go_meet
              exact ⟨Aw, cw, Vb, HPB.out, LC.out⟩
            · refine AllReadyH.cons rfl (fun K hK => ?_) AllReadyH.nil
              go_simp
              refine hK.out _ _ trivial (fun hHeld => ?_)
              clear hK K
              try simp only [Act.put, List.setIfInBounds_toArray, List.set_cons_zero, List.set_cons_succ]
              refine wpAnyH_ready (rs := [4, 7]) (by kernel_rfl) (by simp) ?_
              refine AllReadyH.cons rfl (fun K hK => ?_) ?_
              · go_simp
                refine hK.out _ _ trivial (fun hHeld => ?_)
                clear hK K
                try simp only [Act.put, List.setIfInBounds_toArray, List.set_cons_zero, List.set_cons_succ]
                refine wpAnyH_ready (rs := [7]) (by kernel_rfl) (by simp) ?_
                refine AllReadyH.cons rfl (fun K hK => ?_) AllReadyH.nil
                refine step_appendG entTy (by decide) encE_len encE_one (by rfl) (.tmp 67) (.tmp 68) (by rfl) (some ⟨va.heap.size, 0, none⟩) 0 [] (by rfl) GE.out A i li (by rw [NL.out]; rfl) RE.out (by rw [NL.out]; simp only [maxLen, List.length_nil]; omega) (by rw [NL.out]; simp only [List.length_nil]; omega) ?_
                intro Aw cw wc h7 k7 q7
                rw [List.nil_append] at h7 ⊢
                rw [NL.out]
                have BC := Lib.hid (show Below va.heap.size va wc from BE.out.trans (k7.below (by simp [World.drew]) fun k i _ hf => by
                    obtain ⟨o, _, h3, h4⟩ := hf
                    simp at h3 h4
                    omega))
                have OC := Lib.hid (show okP wc ⟨Aw, i, cw, li⟩ from ⟨h7, NL.out⟩)
                have LC := Lib.hid (show ∀ k, blkOf Aw k → va.heap.size ≤ k from fun k hk => by
                    obtain ⟨a, e, rfl⟩ := hk
                    rcases q7 with ⟨e1, _⟩ | ⟨g, e1, hg⟩
                    · rw [e1] at e; cases e; exact Nat.le_refl _
                    · rw [e1] at e; cases e
                      simp [World.drew] at hg
                      show va.heap.size ≤ g
                      omega)
                have cb2 := CB.out wc BC.out
                have BD := Lib.hid (BC.out.trans (((Below.refl wc.heap.size wc).alloc (Nat.le_refl _) (.cells #[.slice Aw i cw] 27)).mono BC.out.size))
                have cb3 := CB.out _ BD.out
                have GD := Lib.hid (show GSl encP 1 27 (wc.alloc (.cells #[.slice Aw i cw] 27)) (Va 3).A (Va 3).c (Va 3).P from (Ba.out.below BD.out).row 3)
                have RD := Lib.hid (show RdS encP 1 (wc.alloc (.cells #[.slice Aw i cw] 27)) (some ⟨wc.heap.size, 0, none⟩) [(⟨Aw, i, cw, li⟩ : PV)] from RdS.new1 encP 1 wc 27 ⟨Aw, i, cw, li⟩)
                have HL9 := Lib.hid (show ((Va 3).P ++ [(⟨Aw, i, cw, li⟩ : PV)]).length = kn + 1 by rw [List.length_append, Ka3.out]; rfl)
                clear h7 k7 q7
                refine hK.out _ _ trivial (fun hHeld => ?_)
                clear hK K
                try simp only [Act.put, List.setIfInBounds_toArray, List.set_cons_zero, List.set_cons_succ]
                refine wpAnyH_ready (rs := [8]) (by kernel_rfl) (by simp) ?_
                refine AllReadyH.cons rfl (fun K hK => ?_) AllReadyH.nil
                go_simp
                refine hK.out _ _ trivial (fun hHeld => ?_)
                clear hK K
                try simp only [Act.put, List.setIfInBounds_toArray, List.set_cons_zero, List.set_cons_succ]
                refine wpAnyH_ready (rs := [9]) (by kernel_rfl) (by simp) ?_
                refine AllReadyH.cons rfl (fun K hK => ?_) AllReadyH.nil
                refine step_appendG slTy2 (by decide) encP_len encP_one (by rfl) (.tmp 66) (.tmp 70) (by rfl) (Va 3).A (Va 3).c (Va 3).P (by rw [Ka3.out]; rfl) GD.out (some ⟨wc.heap.size, 0, none⟩) 1 [(⟨Aw, i, cw, li⟩ : PV)] (by rfl) RD.out (by rw [Ka3.out]; simp only [maxLen, List.length_singleton]; omega) (by rw [Ka3.out]; simp only [List.length_singleton]; omega) ?_
                intro A9 c9 w9 h9 k9 q9
                rw [HL9.out]
                obtain ⟨Vb, P1, P3, P4⟩ := Ba.out.pushed BD.out 3 h9 k9 q9 (OC.out.below ((Below.refl wc.heap.size wc).alloc (Nat.le_refl _) _)) (fun e => absurd e (by decide)) (fun j q hq hj => by
                  rcases hj with rfl | e
                  · rw [Za.out] at hq; cases hq
                  · exact absurd e (by decide))
                rw [HL9.out] at P1
                have P3' : w9.cell? ⟨B, 3, none⟩ = some (.slice (Va 3).A kn (Va 3).c) := by rw [← Ka3.out]; exact P3
                have P4' : w9.frozen? ⟨B, 3, none⟩ = false := P4
                have HPB := Lib.hid (show Pushed B m 3 ⟨Aw, i, cw, li⟩ va (w9.setCell ⟨B, 3, none⟩ (.slice A9 (kn + 1) c9)) Va Vb from P1)
                clear h9 k9 q9 P1 P3 P4
                refine hK.out _ _ trivial (fun hHeld => ?_)
                clear hK K
                try simp only [Act.put, List.setIfInBounds_toArray, List.set_cons_zero, List.set_cons_succ]
                refine take_on (i := 10) (some 72) (v := ?vr22) rfl rfl (by kernel_rfl) (by kernel_rfl) (by kernel_rfl) (fun _ _ _ h => h) (by rfl) ?hyr22 (by with_reducible exact hHeld) ?restr22
                case hyr22 => (intro wS hSw; (try dsimp only at hSw); go_simp; try with_reducible rfl)
                try simp only [Act.put, List.setIfInBounds_toArray, List.set_cons_zero, List.set_cons_succ]
                refine take_on (i := 11) (some 73) (v := ?vr23) rfl rfl (by kernel_rfl) (by kernel_rfl) (by kernel_rfl) (fun _ _ _ h => h) (by rfl) ?hyr23 (by with_reducible exact hHeld) ?restr23
                case hyr23 => (intro wS hSw; (try dsimp only at hSw); go_simp; try with_reducible rfl)
                try simp only [Act.put, List.setIfInBounds_toArray, List.set_cons_zero, List.set_cons_succ]
                refine wpAnyH_ready (rs := [12]) (by kernel_rfl) (by simp) ?_
                refine AllReadyH.cons rfl (fun K hK => ?_) AllReadyH.nil
                go_simp
                refine hK.out _ _ (trivial) (fun hHeld => ?_)
                clear hK K
                try simp only [Act.put, List.setIfInBounds_toArray, List.set_cons_zero, List.set_cons_succ]
                refine wpAnyH_done (by kernel_rfl) ?_ _
                refine NoPanic.normal ?_
                go_wp2
                go_meet
                exact ⟨Aw, cw, Vb, HPB.out, LC.out⟩
              · refine AllReadyH.cons rfl (fun K hK => ?_) AllReadyH.nil
                refine step_appendG entTy (by decide) encE_len encE_one (by rfl) (.tmp 67) (.tmp 68) (by rfl) (some ⟨va.heap.size, 0, none⟩) 0 [] (by rfl) GE.out A i li (by rw [NL.out]; rfl) RE.out (by rw [NL.out]; simp only [maxLen, List.length_nil]; omega) (by rw [NL.out]; simp only [List.length_nil]; omega) ?_
                intro Aw cw wc h7 k7 q7
                rw [List.nil_append] at h7 ⊢
                rw [NL.out]
                have BC := Lib.hid (show Below va.heap.size va wc from BE.out.trans (k7.below (by simp [World.drew]) fun k i _ hf => by
                    obtain ⟨o, _, h3, h4⟩ := hf
                    simp at h3 h4
                    omega))
                have OC := Lib.hid (show okP wc ⟨Aw, i, cw, li⟩ from ⟨h7, NL.out⟩)
                have LC := Lib.hid (show ∀ k, blkOf Aw k → va.heap.size ≤ k from fun k hk => by
                    obtain ⟨a, e, rfl⟩ := hk
                    rcases q7 with ⟨e1, _⟩ | ⟨g, e1, hg⟩
                    · rw [e1] at e; cases e; exact Nat.le_refl _
                    · rw [e1] at e; cases e
                      simp [World.drew] at hg
                      show va.heap.size ≤ g
                      omega)
                have cb2 := CB.out wc BC.out
                have BD := Lib.hid (BC.out.trans (((Below.refl wc.heap.size wc).alloc (Nat.le_refl _) (.cells #[.slice Aw i cw] 27)).mono BC.out.size))
                have cb3 := CB.out _ BD.out
                have GD := Lib.hid (show GSl encP 1 27 (wc.alloc (.cells #[.slice Aw i cw] 27)) (Va 3).A (Va 3).c (Va 3).P from (Ba.out.below BD.out).row 3)
                have RD := Lib.hid (show RdS encP 1 (wc.alloc (.cells #[.slice Aw i cw] 27)) (some ⟨wc.heap.size, 0, none⟩) [(⟨Aw, i, cw, li⟩ : PV)] from RdS.new1 encP 1 wc 27 ⟨Aw, i, cw, li⟩)
                have HL9 := Lib.hid (show ((Va 3).P ++ [(⟨Aw, i, cw, li⟩ : PV)]).length = kn + 1 by rw [List.length_append, Ka3.out]; rfl)
                clear h7 k7 q7
                refine hK.out _ _ trivial (fun hHeld => ?_)
                clear hK K
                try simp only [Act.put, List.setIfInBounds_toArray, List.set_cons_zero, List.set_cons_succ]
                refine wpAnyH_ready (rs := [4, 8]) (by kernel_rfl) (by simp) ?_
                refine AllReadyH.cons rfl (fun K hK => ?_) ?_
                · go_simp
                  refine hK.out _ _ trivial (fun hHeld => ?_)
                  clear hK K
                  try simp only [Act.put, List.setIfInBounds_toArray, List.set_cons_zero, List.set_cons_succ]
                  refine wpAnyH_ready (rs := [8]) (by kernel_rfl) (by simp) ?_
                  refine AllReadyH.cons rfl (fun K hK => ?_) AllReadyH.nil
                  go_simp
                  refine hK.out _ _ trivial (fun hHeld => ?_)
                  clear hK K
                  try simp only [Act.put, List.setIfInBounds_toArray, List.set_cons_zero, List.set_cons_succ]
                  refine wpAnyH_ready (rs := [9]) (by kernel_rfl) (by simp) ?_
                  refine AllReadyH.cons rfl (fun K hK => ?_) AllReadyH.nil
                  refine step_appendG slTy2 (by decide) encP_len encP_one (by rfl) (.tmp 66) (.tmp 70) (by rfl) (Va 3).A (Va 3).c (Va 3).P (by rw [Ka3.out]; rfl) GD.out (some ⟨wc.heap.size, 0, none⟩) 1 [(⟨Aw, i, cw, li⟩ : PV)] (by rfl) RD.out (by rw [Ka3.out]; simp only [maxLen, List.length_singleton]; omega) (by rw [Ka3.out]; simp only [List.length_singleton]; omega) ?_
                  intro A9 c9 w9 h9 k9 q9
                  rw [HL9.out]
                  obtain ⟨Vb, P1, P3, P4⟩ := Ba.out.pushed BD.out 3 h9 k9 q9 (OC.out.below ((Below.refl wc.heap.size wc).alloc (Nat.le_refl _) _)) (fun e => absurd e (by decide)) (fun j q hq hj => by
                    rcases hj with rfl | e
                    · rw [Za.out] at hq; cases hq
                    · exact absurd e (by decide))
                  rw [HL9.out] at P1
                  have P3' : w9.cell? ⟨B, 3, none⟩ = some (.slice (Va 3).A kn (Va 3).c) := by rw [← Ka3.out]; exact P3
                  have P4' : w9.frozen? ⟨B, 3, none⟩ = false := P4
                  have HPB := Lib.hid (show Pushed B m 3 ⟨Aw, i, cw, li⟩ va (w9.setCell ⟨B, 3, none⟩ (.slice A9 (kn + 1) c9)) Va Vb from P1)
                  clear h9 k9 q9 P1 P3 P4
                  refine hK.out _ _ trivial (fun hHeld => ?_)
                  clear hK K
                  try simp only [Act.put, List.setIfInBounds_toArray, List.set_cons_zero, List.set_cons_succ]
                  refine take_on (i := 10) (some 72) (v := ?vr24) rfl rfl (by kernel_rfl) (by kernel_rfl) (by kernel_rfl) (fun _ _ _ h => h) (by rfl) ?hyr24 (by with_reducible exact hHeld) ?restr24
                  case hyr24 => (intro wS hSw; (try dsimp only at hSw); go_simp; try with_reducible rfl)
                  try simp only [Act.put, List.setIfInBounds_toArray, List.set_cons_zero, List.set_cons_succ]
                  refine take_on (i := 11) (some 73) (v := ?vr25) rfl rfl (by kernel_rfl) (by kernel_rfl) (by kernel_rfl) (fun _ _ _ h => h) (by rfl) ?hyr25 (by with_reducible exact hHeld) ?restr25
                  case hyr25 => (intro wS hSw; (try dsimp only at hSw); go_simp; try with_reducible rfl)
                  try simp only [Act.put, List.setIfInBounds_toArray, List.set_cons_zero, List.set_cons_succ]
                  refine wpAnyH_ready (rs := [12]) (by kernel_rfl) (by simp) ?_
                  refine AllReadyH.cons rfl (fun K hK => ?_) AllReadyH.nil
                  go_simp
                  refine hK.out _ _ (trivial) (fun hHeld => ?_)
                  clear hK K
                  try simp only [Act.put, List.setIfInBounds_toArray, List.set_cons_zero, List.set_cons_succ]
                  refine wpAnyH_done (by kernel_rfl) ?_ _
                  refine NoPanic.normal ?_
                  go_wp2
                  go_meet
                  exact ⟨Aw, cw, Vb, HPB.out, LC.out⟩
                · refine AllReadyH.cons rfl (fun K hK => ?_) AllReadyH.nil
                  go_simp
                  refine hK.out _ _ trivial (fun hHeld => ?_)
                  clear hK K
                  try simp only [Act.put, List.setIfInBounds_toArray, List.set_cons_zero, List.set_cons_succ]
                  refine wpAnyH_ready (rs := [4]) (by kernel_rfl) (by simp) ?_
                  refine AllReadyH.cons rfl (fun K hK => ?_) AllReadyH.nil
                  go_simp
                  refine hK.out _ _ trivial (fun hHeld => ?_)
                  clear hK K
                  try simp only [Act.put, List.setIfInBounds_toArray, List.set_cons_zero, List.set_cons_succ]
                  refine wpAnyH_ready (rs := [9]) (by kernel_rfl) (by simp) ?_
                  refine AllReadyH.cons rfl (fun K hK => ?_) AllReadyH.nil
                  refine step_appendG slTy2 (by decide) encP_len encP_one (by rfl) (.tmp 66) (.tmp 70) (by rfl) (Va 3).A (Va 3).c (Va 3).P (by rw [Ka3.out]; rfl) GD.out (some ⟨wc.heap.size, 0, none⟩) 1 [(⟨Aw, i, cw, li⟩ : PV)] (by rfl) RD.out (by rw [Ka3.out]; simp only [maxLen, List.length_singleton]; omega) (by rw [Ka3.out]; simp only [List.length_singleton]; omega) ?_
                  intro A9 c9 w9 h9 k9 q9
                  rw [HL9.out]
                  obtain ⟨Vb, P1, P3, P4⟩ := Ba.out.pushed BD.out 3 h9 k9 q9 (OC.out.below ((Below.refl wc.heap.size wc).alloc (Nat.le_refl _) _)) (fun e => absurd e (by decide)) (fun j q hq hj => by
                    rcases hj with rfl | e
                    · rw [Za.out] at hq; cases hq
                    · exact absurd e (by decide))
                  rw [HL9.out] at P1
                  have P3' : w9.cell? ⟨B, 3, none⟩ = some (.slice (Va 3).A kn (Va 3).c) := by rw [← Ka3.out]; exact P3
                  have P4' : w9.frozen? ⟨B, 3, none⟩ = false := P4
                  have HPB := Lib.hid (show Pushed B m 3 ⟨Aw, i, cw, li⟩ va (w9.setCell ⟨B, 3, none⟩ (.slice A9 (kn + 1) c9)) Va Vb from P1)
                  clear h9 k9 q9 P1 P3 P4
                  refine hK.out _ _ trivial (fun hHeld => ?_)
                  clear hK K
                  try simp only [Act.put, List.setIfInBounds_toArray, List.set_cons_zero, List.set_cons_succ]
                  refine take_on (i := 10) (some 72) (v := ?vr26) rfl rfl (by kernel_rfl) (by kernel_rfl) (by kernel_rfl) (fun _ _ _ h => h) (by rfl) ?hyr26 (by with_reducible exact hHeld) ?restr26
                  case hyr26 => (intro wS hSw; (try dsimp only at hSw); go_simp; try with_reducible rfl)
                  try simp only [Act.put, List.setIfInBounds_toArray, List.set_cons_zero, List.set_cons_succ]
                  refine take_on (i := 11) (some 73) (v := ?vr27) rfl rfl (by kernel_rfl) (by kernel_rfl) (by kernel_rfl) (fun _ _ _ h => h) (by rfl) ?hyr27 (by with_reducible exact hHeld) ?restr27
                  case hyr27 => (intro wS hSw; (try dsimp only at hSw); go_simp; try with_reducible rfl)
                  try simp only [Act.put, List.setIfInBounds_toArray, List.set_cons_zero, List.set_cons_succ]
                  refine wpAnyH_ready (rs := [12]) (by kernel_rfl) (by simp) ?_
                  refine AllReadyH.cons rfl (fun K hK => ?_) AllReadyH.nil
                  go_simp
                  refine hK.out _ _ (trivial) (fun hHeld => ?_)
                  clear hK K
                  try simp only [Act.put, List.setIfInBounds_toArray, List.set_cons_zero, List.set_cons_succ]
                  refine wpAnyH_done (by kernel_rfl) ?_ _
                  refine NoPanic.normal ?_
                  go_wp2
                  go_meet
                  exact ⟨Aw, cw, Vb, HPB.out, LC.out⟩
          case rest =>
            obtain ⟨Awb, cwb, Vb, P1, L1⟩ := hcut
            have HPb := Lib.hid P1
            have HLCb := Lib.hid L1
            obtain ⟨vb, hvb⟩ : ∃ u, u = wc := ⟨_, rfl⟩
            subst hvb
            clear cb0 cb1 CB BE GE RE NL P1 L1
            have Bb := Lib.hid HPb.out.bk
            have Ob := Lib.hid (HPb.out.okP Ba.out Oa.out)
            have Gb := Lib.hid (HPb.out.okP Ba.out Ga.out)
            have Zb := Lib.hid (show (Vb 0).P = [] by rw [HPb.out.oth 0 (by decide)]; exact Za.out)
            have Kb2 := Lib.hid (show (Vb 2).P.length = kn + 1 by rw [HPb.out.oth 2 (by decide)]; exact Ka2.out)
            have Kb3 := Lib.hid (show (Vb 3).P.length = kn + 1 from by rw [HPb.out.self, List.length_append, Ka3.out]; rfl)
            have bc : vb.cell? ⟨B, 2, none⟩ = some (.slice (Vb 2).A (kn + 1) (Vb 2).c) := by rw [← Kb2.out]; exact Bb.out.cell 2
            have Gac := Lib.hid (show GSl encP 1 27 (vb.alloc (.cells #[.slice Ag gn gc] 27)) (Vb 2).A (Vb 2).c (Vb 2).P from (Bb.out.row 2).chg (Chg.alloc (fun _ _ => False) vb (.cells #[.slice Ag gn gc] 27)) encP_len fun _ _ _ h => h)
            have Rnc := Lib.hid (show RdS encP 1 (vb.alloc (.cells #[.slice Ag gn gc] 27)) (some ⟨vb.heap.size, 0, none⟩) [(⟨Ag, gn, gc, lg⟩ : PV)] from RdS.new1 encP 1 vb 27 ⟨Ag, gn, gc, lg⟩)
            have HLc := Lib.hid (show ((Vb 2).P ++ [(⟨Ag, gn, gc, lg⟩ : PV)]).length = kn + 2 by rw [List.length_append, Kb2.out]; rfl)
            go_upto_region 13 with (
              at_builtin
              refine wpList_appendG slTy2 (by decide) encP_len encP_one rfl (.tmp 78) (.tmp 80) rfl (Vb 2).A (Vb 2).c (Vb 2).P (by rw [Kb2.out]; rfl) Gac.out (some ⟨vb.heap.size, 0, none⟩) 1 [(⟨Ag, gn, gc, lg⟩ : PV)] rfl Rnc.out (by rw [Kb2.out]; simp only [maxLen, List.length_singleton]; omega) (by rw [Kb2.out]; simp only [List.length_singleton]; omega) ?_
              intro A6 c6 w8 h8 k8 q8
              rw [HLc.out]
              obtain ⟨Vc, P1, P3, P4⟩ := Bb.out.pushed ((Below.refl vb.heap.size vb).alloc (Nat.le_refl _) (.cells #[.slice Ag gn gc] 27)) 2 h8 k8 q8 (Gb.out.below ((Below.refl vb.heap.size vb).alloc (Nat.le_refl _) (.cells #[.slice Ag gn gc] 27))) (fun e => absurd e (by decide)) (fun j q hq hj => by
              rcases hj with rfl | e
              · rw [Zb.out] at hq; cases hq
              · exact absurd e (by decide))
              rw [HLc.out] at P1
              have P3' : w8.cell? ⟨B, 2, none⟩ = some (.slice (Vb 2).A (kn + 1) (Vb 2).c) := by rw [← Kb2.out]; exact P3
              have P4' : w8.frozen? ⟨B, 2, none⟩ = false := P4
              have HPc := Lib.hid (show Pushed B m 2 ⟨Ag, gn, gc, lg⟩ vb (w8.setCell ⟨B, 2, none⟩ (.slice A6 (kn + 2) c6)) Vb Vc from P1)
              clear h8 k8 q8 P1 P3 P4
              )
            obtain ⟨vc, hvc⟩ : ∃ u, u = w8.setCell ⟨B, 2, none⟩ (.slice A6 (kn + 2) c6) := ⟨_, rfl⟩
            rw [← hvc] at HPc ⊢
            clear hvc P3' P4' Gac Rnc bc
            have Bc := Lib.hid HPc.out.bk
            have Oc := Lib.hid (HPc.out.okP Bb.out Gb.out)
            have Zc := Lib.hid (show (Vc 0).P = [] by rw [HPc.out.oth 0 (by decide)]; exact Zb.out)
            have Kc3 := Lib.hid (show (Vc 3).P.length = kn + 1 by rw [HPc.out.oth 3 (by decide)]; exact Kb3.out)
            have cb : ∀ u, Below vc.heap.size vc u → u.cell? ⟨B, 3, none⟩ = some (.slice (Vc 3).A (kn + 1) (Vc 3).c) := fun u hu => by rw [← Kc3.out]; exact (Bc.out.below hu).cell 3
            have CB := Lib.hid cb
            have BE := Lib.hid (show Below vc.heap.size vc (vc.alloc (.cells #[] 36)).drew from ((Below.refl vc.heap.size vc).alloc (Nat.le_refl _) _).drew)
            have cb0 := CB.out vc.drew (Below.refl _ _).drew
            have cb1 := CB.out _ BE.out
            have GE := Lib.hid (show GSl encE 3 36 (vc.alloc (.cells #[] 36)).drew (some ⟨vc.heap.size, 0, none⟩) 0 [] from (GSl.empty encE 3 36 vc))
            have RE := Lib.hid (show RdS encE 3 (vc.alloc (.cells #[] 36)).drew Ag lg from (Oc.out.below BE.out).1.rds)
            have NL := Lib.hid (show lg.length = gn from Oc.out.2)
            clear cb
            have fin : ∀ (Awd : Option Addr) (cwd : Nat) (Vd : Fin 4 → RV) (vd : World), Pushed B m 3 ⟨Awd, gn, cwd, lg⟩ vc vd Vc Vd → (∀ k, blkOf Awd k → vc.heap.size ≤ k) → ∃ V' : Fin 4 → RV, BkR vd B m V' ∧ V' 0 = V 0 ∧ V' 1 = V 1 ∧ (V' 2).P.map PV.l = (V' 3).P.map PV.l ∧ (V' 2).P.length = kn + 2 ∧ Chg (fun k j => BkF V B k j ∨ cellsP ⟨A, i, i, l⟩ k j) w vd ∧ (∀ k j, BkF V' B k j → BkF V B k j ∨ cellsP ⟨A, i, i, l⟩ k j ∨ w.heap.size ≤ k) := by
              intro Awd cwd Vd vd hPd hLd
              have HPd := Lib.hid hPd
              have HLCd := Lib.hid hLd
              have s1 : w.heap.size ≤ wr.heap.size := Nat.le_trans hsz hBv.out.size
              have s2 : wr.heap.size ≤ va.heap.size := HPa.out.chg.size
              have s3 : va.heap.size ≤ vb.heap.size := HPb.out.chg.size
              have s4 : vb.heap.size ≤ vc.heap.size := HPc.out.chg.size
              have ea : ∀ j, j ≠ 2 → Va j = V j := HPa.out.oth
              have eb : ∀ j, j ≠ 3 → Vb j = Va j := HPb.out.oth
              have ec : ∀ j, j ≠ 2 → Vc j = Vb j := HPc.out.oth
              have ed : ∀ j, j ≠ 3 → Vd j = Vc j := HPd.out.oth
              have q2a : ∀ k, blkOf (Va 2).A k → blkOf (V 2).A k ∨ w.heap.size ≤ k := fun k hk => (HPa.out.new k hk).imp id fun h => by omega
              have q3b : ∀ k, blkOf (Vb 3).A k → blkOf (V 3).A k ∨ w.heap.size ≤ k := fun k hk => (HPb.out.new k hk).imp (fun h => by rw [ea 3 (by decide)] at h; exact h) fun h => by omega
              have q2c : ∀ k, blkOf (Vc 2).A k → blkOf (V 2).A k ∨ w.heap.size ≤ k := fun k hk => by
                rcases HPc.out.new k hk with h | h
                · rw [eb 2 (by decide)] at h; exact q2a k h
                · exact .inr (by omega)
              have q3d : ∀ k, blkOf (Vd 3).A k → blkOf (V 3).A k ∨ w.heap.size ≤ k := fun k hk => by
                rcases HPd.out.new k hk with h | h
                · rw [ec 3 (by decide)] at h; exact q3b k h
                · exact .inr (by omega)
              have P2 : (Vd 2).P = (V 2).P ++ [⟨A, i, i, li⟩] ++ [⟨Ag, gn, gc, lg⟩] := by rw [ed 2 (by decide), HPc.out.self, eb 2 (by decide), HPa.out.self]
              have P3 : (Vd 3).P = (V 3).P ++ [⟨Awb, i, cwb, li⟩] ++ [⟨Awd, gn, cwd, lg⟩] := by rw [HPd.out.self, ec 3 (by decide), HPb.out.self, ea 3 (by decide)]
              have E0 : Vd 0 = V 0 := by rw [ed 0 (by decide), ec 0 (by decide), eb 0 (by decide), ea 0 (by decide)]
              have E1 : Vd 1 = V 1 := by rw [ed 1 (by decide), ec 1 (by decide), eb 1 (by decide), ea 1 (by decide)]
              refine ⟨Vd, HPd.out.bk, E0, E1, ?_, ?_, ?_, fun k j hk => ?_⟩
              · rw [P2, P3]; simp only [List.map_append, H23.out]; rfl
              · rw [P2]; simp [HKN.out]
              · have t1 : Chg (fun k j => BkF V B k j ∨ cellsP ⟨A, i, i, l⟩ k j) w w1 := HC1.out.mono fun k j _ e => .inl (.inl e)
                have t2 := t1.trans hC.out fun k j _ h => .inr h
                have t3 := t2.trans hBv.out fun k j hk h => by omega
                have t4 := t3.trans HPa.out.chg fun k j hk h => by
                  rcases h with h | h
                  · exact .inl (.inl h)
                  · exact .inl (.inr (.inl ⟨2, h⟩))
                have t5 := t4.trans HPb.out.chg fun k j hk h => by
                  rcases h with h | h
                  · exact .inl (.inl h)
                  · rw [ea 3 (by decide)] at h; exact .inl (.inr (.inl ⟨3, h⟩))
                have t6 := t5.trans HPc.out.chg fun k j hk h => by
                  rcases h with h | h
                  · exact .inl (.inl h)
                  · rw [eb 2 (by decide)] at h
                    rcases q2a k h with h | h
                    · exact .inl (.inr (.inl ⟨2, h⟩))
                    · omega
                exact t6.trans HPd.out.chg fun k j hk h => by
                  rcases h with h | h
                  · exact .inl (.inl h)
                  · rw [ec 3 (by decide)] at h
                    rcases q3b k h with h | h
                    · exact .inl (.inr (.inl ⟨3, h⟩))
                    · omega
              · rcases hk with rfl | ⟨f, hf⟩ | ⟨f, p, hp, hc⟩
                · exact .inl (.inl rfl)
                · match f, hf with
                  | 0, hf => rw [E0] at hf; exact .inl (.inr (.inl ⟨0, hf⟩))
                  | 1, hf => rw [E1] at hf; exact .inl (.inr (.inl ⟨1, hf⟩))
                  | 2, hf => rw [ed 2 (by decide)] at hf; exact (q2c k hf).elim (fun h => .inl (.inr (.inl ⟨2, h⟩))) fun h => .inr (.inr h)
                  | 3, hf => exact (q3d k hf).elim (fun h => .inl (.inr (.inl ⟨3, h⟩))) fun h => .inr (.inr h)
                · match f, hp with
                  | 0, hp => rw [E0] at hp; exact .inl (.inr (.inr ⟨0, p, hp, hc⟩))
                  | 1, hp => rw [E1] at hp; exact .inl (.inr (.inr ⟨1, p, hp, hc⟩))
                  | 2, hp =>
                    rw [P2] at hp
                    rcases List.mem_append.1 hp with hp | hp
                    · rcases List.mem_append.1 hp with hp | hp
                      · exact .inl (.inr (.inr ⟨2, p, hp, hc⟩))
                      · obtain rfl := List.mem_singleton.1 hp
                        exact .inr (.inl hc)
                    · obtain rfl := List.mem_singleton.1 hp
                      obtain ⟨o, e, _⟩ := hc
                      rw [HAg.out] at e
                      cases e
                      exact .inr (.inr hgg)
                  | 3, hp =>
                    rw [P3] at hp
                    rcases List.mem_append.1 hp with hp | hp
                    · rcases List.mem_append.1 hp with hp | hp
                      · exact .inl (.inr (.inr ⟨3, p, hp, hc⟩))
                      · obtain rfl := List.mem_singleton.1 hp
                        exact .inr (.inr (by have := HLCb.out k (slFp_blk hc); omega))
                    · obtain rfl := List.mem_singleton.1 hp
                      exact .inr (.inr (by have := HLCd.out k (slFp_blk hc); omega))
            have FIN := Lib.hid fin
            clear fin
            refine wp_region_noPanic ?_
            refine wp_region_held_drew (S := fun w' => True) (by kernel_rfl) (trivial) (fun hHeld => ?_)
            refine take_on (i := 0) (some 84) (v := ?vr28) rfl rfl (by kernel_rfl) (by kernel_rfl) (by kernel_rfl) (fun _ _ _ h => h) (by rfl) ?hyr28 (by with_reducible exact hHeld) ?restr28
            case hyr28 => (intro wS hSw; (try dsimp only at hSw); go_simp; try with_reducible rfl)
            try simp only [Act.put, List.setIfInBounds_toArray, List.set_cons_zero, List.set_cons_succ]
            refine take_on (i := 1) (some 85) (v := ?vr29) rfl rfl (by kernel_rfl) (by kernel_rfl) (by kernel_rfl) (fun _ _ _ h => h) (by rfl) ?hyr29 (by with_reducible exact hHeld) ?restr29
            case hyr29 => (intro wS hSw; (try dsimp only at hSw); go_simp; try with_reducible rfl)
            try simp only [Act.put, List.setIfInBounds_toArray, List.set_cons_zero, List.set_cons_succ]
            refine take_on (i := 2) (some 86) (v := ?vr30) rfl rfl (by kernel_rfl) (by kernel_rfl) (by kernel_rfl) (fun _ _ _ h => h) (by rfl) ?hyr30 (by with_reducible exact hHeld) ?restr30
            case hyr30 => (intro wS hSw; (try dsimp only at hSw); go_simp; try with_reducible rfl)
            try simp only [Act.put, List.setIfInBounds_toArray, List.set_cons_zero, List.set_cons_succ]
            refine take_on (i := 3) (some 87) (v := ?vr31) rfl rfl (by kernel_rfl) (by kernel_rfl) (by kernel_rfl) (fun _ _ _ h => h) (by rfl) ?hyr31 (by with_reducible exact hHeld) ?restr31
            case hyr31 => (intro wS hSw; (try dsimp only at hSw); go_simp; try with_reducible rfl)
            try simp only [Act.put, List.setIfInBounds_toArray, List.set_cons_zero, List.set_cons_succ]
            refine take_on (i := 6) (some 90) (v := ?vr32) rfl rfl (by kernel_rfl) (by kernel_rfl) (by kernel_rfl) (fun _ _ _ h => h) (by rfl) ?hyr32 (by with_reducible exact hHeld) ?restr32
            case hyr32 => (intro wS hSw; (try dsimp only at hSw); go_simp; try with_reducible rfl)
            try simp only [Act.put, List.setIfInBounds_toArray, List.set_cons_zero, List.set_cons_succ]
            refine wpAnyH_ready (rs := [4, 5]) (by kernel_rfl) (by simp) ?_
            refine AllReadyH.cons rfl (fun K hK => ?_) ?_
            · go_simp
              refine hK.out _ _ trivial (fun hHeld => ?_)
              clear hK K
              try simp only [Act.put, List.setIfInBounds_toArray, List.set_cons_zero, List.set_cons_succ]
              refine wpAnyH_ready (rs := [5]) (by kernel_rfl) (by simp) ?_
              refine AllReadyH.cons rfl (fun K hK => ?_) AllReadyH.nil
              go_simp
              refine hK.out _ _ trivial (fun hHeld => ?_)
              clear hK K
              try simp only [Act.put, List.setIfInBounds_toArray, List.set_cons_zero, List.set_cons_succ]
              refine wpAnyH_ready (rs := [7]) (by kernel_rfl) (by simp) ?_
              refine AllReadyH.cons rfl (fun K hK => ?_) AllReadyH.nil
              refine step_appendG entTy (by decide) encE_len encE_one (by rfl) (.tmp 89) (.tmp 90) (by rfl) (some ⟨vc.heap.size, 0, none⟩) 0 [] (by rfl) GE.out Ag gc lg (by rw [NL.out]; rfl) RE.out (by rw [NL.out]; simp only [maxLen, List.length_nil]; omega) (by rw [NL.out]; simp only [List.length_nil]; omega) ?_
              intro Aw cw wc h7 k7 q7
              rw [List.nil_append] at h7 ⊢
              rw [NL.out]
              have BC := Lib.hid (show Below vc.heap.size vc wc from BE.out.trans (k7.below (by simp [World.drew]) fun k i _ hf => by
                  obtain ⟨o, _, h3, h4⟩ := hf
                  simp at h3 h4
                  omega))
              have OC := Lib.hid (show okP wc ⟨Aw, gn, cw, lg⟩ from ⟨h7, NL.out⟩)
              have LC := Lib.hid (show ∀ k, blkOf Aw k → vc.heap.size ≤ k from fun k hk => by
                  obtain ⟨a, e, rfl⟩ := hk
                  rcases q7 with ⟨e1, _⟩ | ⟨g, e1, hg⟩
                  · rw [e1] at e; cases e; exact Nat.le_refl _
                  · rw [e1] at e; cases e
                    simp [World.drew] at hg
                    show vc.heap.size ≤ g
                    omega)
              have cb2 := CB.out wc BC.out
              have BD := Lib.hid (BC.out.trans (((Below.refl wc.heap.size wc).alloc (Nat.le_refl _) (.cells #[.slice Aw gn cw] 27)).mono BC.out.size))
              have cb3 := CB.out _ BD.out
              have GD := Lib.hid (show GSl encP 1 27 (wc.alloc (.cells #[.slice Aw gn cw] 27)) (Vc 3).A (Vc 3).c (Vc 3).P from (Bc.out.below BD.out).row 3)
              have RD := Lib.hid (show RdS encP 1 (wc.alloc (.cells #[.slice Aw gn cw] 27)) (some ⟨wc.heap.size, 0, none⟩) [(⟨Aw, gn, cw, lg⟩ : PV)] from RdS.new1 encP 1 wc 27 ⟨Aw, gn, cw, lg⟩)
              have HL9 := Lib.hid (show ((Vc 3).P ++ [(⟨Aw, gn, cw, lg⟩ : PV)]).length = kn + 2 by rw [List.length_append, Kc3.out]; rfl)
              clear h7 k7 q7
              refine hK.out _ _ trivial (fun hHeld => ?_)
              clear hK K
              try simp only [Act.put, List.setIfInBounds_toArray, List.set_cons_zero, List.set_cons_succ]
              refine wpAnyH_ready (rs := [8]) (by kernel_rfl) (by simp) ?_
              refine AllReadyH.cons rfl (fun K hK => ?_) AllReadyH.nil
              go_simp
              refine hK.out _ _ trivial (fun hHeld => ?_)
              clear hK K
              try simp only [Act.put, List.setIfInBounds_toArray, List.set_cons_zero, List.set_cons_succ]
              refine wpAnyH_ready (rs := [9]) (by kernel_rfl) (by simp) ?_
              refine AllReadyH.cons rfl (fun K hK => ?_) AllReadyH.nil
              refine step_appendG slTy2 (by decide) encP_len encP_one (by rfl) (.tmp 88) (.tmp 92) (by rfl) (Vc 3).A (Vc 3).c (Vc 3).P (by rw [Kc3.out]; rfl) GD.out (some ⟨wc.heap.size, 0, none⟩) 1 [(⟨Aw, gn, cw, lg⟩ : PV)] (by rfl) RD.out (by rw [Kc3.out]; simp only [maxLen, List.length_singleton]; omega) (by rw [Kc3.out]; simp only [List.length_singleton]; omega) ?_
              intro A9 c9 w9 h9 k9 q9
              rw [HL9.out]
              obtain ⟨Vb, P1, P3, P4⟩ := Bc.out.pushed BD.out 3 h9 k9 q9 (OC.out.below ((Below.refl wc.heap.size wc).alloc (Nat.le_refl _) _)) (fun e => absurd e (by decide)) (fun j q hq hj => by
                rcases hj with rfl | e
                · rw [Zc.out] at hq; cases hq
                · exact absurd e (by decide))
              rw [HL9.out] at P1
              have P3' : w9.cell? ⟨B, 3, none⟩ = some (.slice (Vc 3).A (kn + 1) (Vc 3).c) := by rw [← Kc3.out]; exact P3
              have P4' : w9.frozen? ⟨B, 3, none⟩ = false := P4
              have HPB := Lib.hid (show Pushed B m 3 ⟨Aw, gn, cw, lg⟩ vc (w9.setCell ⟨B, 3, none⟩ (.slice A9 (kn + 2) c9)) Vc Vb from P1)
              clear h9 k9 q9 P1 P3 P4
              refine hK.out _ _ trivial (fun hHeld => ?_)
              clear hK K
              try simp only [Act.put, List.setIfInBounds_toArray, List.set_cons_zero, List.set_cons_succ]
              refine take_on (i := 10) (some 94) (v := ?vr33) rfl rfl (by kernel_rfl) (by kernel_rfl) (by kernel_rfl) (fun _ _ _ h => h) (by rfl) ?hyr33 (by with_reducible exact hHeld) ?restr33
              case hyr33 => (intro wS hSw; (try dsimp only at hSw); go_simp; try with_reducible rfl)
              try simp only [Act.put, List.setIfInBounds_toArray, List.set_cons_zero, List.set_cons_succ]
              refine take_on (i := 11) (some 95) (v := ?vr34) rfl rfl (by kernel_rfl) (by kernel_rfl) (by kernel_rfl) (fun _ _ _ h => h) (by rfl) ?hyr34 (by with_reducible exact hHeld) ?restr34
              case hyr34 => (intro wS hSw; (try dsimp only at hSw); go_simp; try with_reducible rfl)
              try simp only [Act.put, List.setIfInBounds_toArray, List.set_cons_zero, List.set_cons_succ]
              refine wpAnyH_ready (rs := [12]) (by kernel_rfl) (by simp) ?_
              refine AllReadyH.cons rfl (fun K hK => ?_) AllReadyH.nil
              go_simp
              refine hK.out _ _ (trivial) (fun hHeld => ?_)
              clear hK K
              try simp only [Act.put, List.setIfInBounds_toArray, List.set_cons_zero, List.set_cons_succ]
              refine wpAnyH_done (by kernel_rfl) ?_ _
              refine NoPanic.normal ?_
              go_wp2
              go_end0
              exact ⟨rfl, FIN.out Aw cw Vb _ HPB.out LC.out⟩
            · refine AllReadyH.cons rfl (fun K hK => ?_) AllReadyH.nil
              go_simp
              refine hK.out _ _ trivial (fun hHeld => ?_)
              clear hK K
              try simp only [Act.put, List.setIfInBounds_toArray, List.set_cons_zero, List.set_cons_succ]
              refine wpAnyH_ready (rs := [4, 7]) (by kernel_rfl) (by simp) ?_
              refine AllReadyH.cons rfl (fun K hK => ?_) ?_
              · go_simp
                refine hK.out _ _ trivial (fun hHeld => ?_)
                clear hK K
                try simp only [Act.put, List.setIfInBounds_toArray, List.set_cons_zero, List.set_cons_succ]
                refine wpAnyH_ready (rs := [7]) (by kernel_rfl) (by simp) ?_
                refine AllReadyH.cons rfl (fun K hK => ?_) AllReadyH.nil
                refine step_appendG entTy (by decide) encE_len encE_one (by rfl) (.tmp 89) (.tmp 90) (by rfl) (some ⟨vc.heap.size, 0, none⟩) 0 [] (by rfl) GE.out Ag gc lg (by rw [NL.out]; rfl) RE.out (by rw [NL.out]; simp only [maxLen, List.length_nil]; omega) (by rw [NL.out]; simp only [List.length_nil]; omega) ?_
                intro Aw cw wc h7 k7 q7
                rw [List.nil_append] at h7 ⊢
                rw [NL.out]
                have BC := Lib.hid (show Below vc.heap.size vc wc from BE.out.trans (k7.below (by simp [World.drew]) fun k i _ hf => by
                    obtain ⟨o, _, h3, h4⟩ := hf
                    simp at h3 h4
                    omega))
                have OC := Lib.hid (show okP wc ⟨Aw, gn, cw, lg⟩ from ⟨h7, NL.out⟩)
                have LC := Lib.hid (show ∀ k, blkOf Aw k → vc.heap.size ≤ k from fun k hk => by
                    obtain ⟨a, e, rfl⟩ := hk
                    rcases q7 with ⟨e1, _⟩ | ⟨g, e1, hg⟩
                    · rw [e1] at e; cases e; exact Nat.le_refl _
                    · rw [e1] at e; cases e
                      simp [World.drew] at hg
                      show vc.heap.size ≤ g
                      omega)
                have cb2 := CB.out wc BC.out
                have BD := Lib.hid (BC.out.trans (((Below.refl wc.heap.size wc).alloc (Nat.le_refl _) (.cells #[.slice Aw gn cw] 27)).mono BC.out.size))
                have cb3 := CB.out _ BD.out
                have GD := Lib.hid (show GSl encP 1 27 (wc.alloc (.cells #[.slice Aw gn cw] 27)) (Vc 3).A (Vc 3).c (Vc 3).P from (Bc.out.below BD.out).row 3)
                have RD := Lib.hid (show RdS encP 1 (wc.alloc (.cells #[.slice Aw gn cw] 27)) (some ⟨wc.heap.size, 0, none⟩) [(⟨Aw, gn, cw, lg⟩ : PV)] from RdS.new1 encP 1 wc 27 ⟨Aw, gn, cw, lg⟩)
                have HL9 := Lib.hid (show ((Vc 3).P ++ [(⟨Aw, gn, cw, lg⟩ : PV)]).length = kn + 2 by rw [List.length_append, Kc3.out]; rfl)
                clear h7 k7 q7
                refine hK.out _ _ trivial (fun hHeld => ?_)
                clear hK K
                try simp only [Act.put, List.setIfInBounds_toArray, List.set_cons_zero, List.set_cons_succ]
                refine wpAnyH_ready (rs := [8]) (by kernel_rfl) (by simp) ?_
                refine AllReadyH.cons rfl (fun K hK => ?_) AllReadyH.nil
                go_simp
                refine hK.out _ _ trivial (fun hHeld => ?_)
                clear hK K
                try simp only [Act.put, List.setIfInBounds_toArray, List.set_cons_zero, List.set_cons_succ]
                refine wpAnyH_ready (rs := [9]) (by kernel_rfl) (by simp) ?_
                refine AllReadyH.cons rfl (fun K hK => ?_) AllReadyH.nil
                refine step_appendG slTy2 (by decide) encP_len encP_one (by rfl) (.tmp 88) (.tmp 92) (by rfl) (Vc 3).A (Vc 3).c (Vc 3).P (by rw [Kc3.out]; rfl) GD.out (some ⟨wc.heap.size, 0, none⟩) 1 [(⟨Aw, gn, cw, lg⟩ : PV)] (by rfl) RD.out (by rw [Kc3.out]; simp only [maxLen, List.length_singleton]; omega) (by rw [Kc3.out]; simp only [List.length_singleton]; omega) ?_
                intro A9 c9 w9 h9 k9 q9
                rw [HL9.out]
                obtain ⟨Vb, P1, P3, P4⟩ := Bc.out.pushed BD.out 3 h9 k9 q9 (OC.out.below ((Below.refl wc.heap.size wc).alloc (Nat.le_refl _) _)) (fun e => absurd e (by decide)) (fun j q hq hj => by
                  rcases hj with rfl | e
                  · rw [Zc.out] at hq; cases hq
                  · exact absurd e (by decide))
                rw [HL9.out] at P1
                have P3' : w9.cell? ⟨B, 3, none⟩ = some (.slice (Vc 3).A (kn + 1) (Vc 3).c) := by rw [← Kc3.out]; exact P3
                have P4' : w9.frozen? ⟨B, 3, none⟩ = false := P4
                have HPB := Lib.hid (show Pushed B m 3 ⟨Aw, gn, cw, lg⟩ vc (w9.setCell ⟨B, 3, none⟩ (.slice A9 (kn + 2) c9)) Vc Vb from P1)
                clear h9 k9 q9 P1 P3 P4
                refine hK.out _ _ trivial (fun hHeld => ?_)
                clear hK K
                try simp only [Act.put, List.setIfInBounds_toArray, List.set_cons_zero, List.set_cons_succ]
                refine take_on (i := 10) (some 94) (v := ?vr35) rfl rfl (by kernel_rfl) (by kernel_rfl) (by kernel_rfl) (fun _ _ _ h => h) (by rfl) ?hyr35 (by with_reducible exact hHeld) ?restr35
                case hyr35 => (intro wS hSw; (try dsimp only at hSw); go_simp; try with_reducible rfl)
                try simp only [Act.put, List.setIfInBounds_toArray, List.set_cons_zero, List.set_cons_succ]
                refine take_on (i := 11) (some 95) (v := ?vr36) rfl rfl (by kernel_rfl) (by kernel_rfl) (by kernel_rfl) (fun _ _ _ h => h) (by rfl) ?hyr36 (by with_reducible exact hHeld) ?restr36
                case hyr36 => (intro wS hSw; (try dsimp only at hSw); go_simp; try with_reducible rfl)
                try simp only [Act.put, List.setIfInBounds_toArray, List.set_cons_zero, List.set_cons_succ]
                refine wpAnyH_ready (rs := [12]) (by kernel_rfl) (by simp) ?_
                refine AllReadyH.cons rfl (fun K hK => ?_) AllReadyH.nil
                go_simp
                refine hK.out _ _ (trivial) (fun hHeld => ?_)
                clear hK K
                try simp only [Act.put, List.setIfInBounds_toArray, List.set_cons_zero, List.set_cons_succ]
                refine wpAnyH_done (by kernel_rfl) ?_ _
                refine NoPanic.normal ?_
                go_wp2
                go_end0
                exact ⟨rfl, FIN.out Aw cw Vb _ HPB.out LC.out⟩
              · refine AllReadyH.cons rfl (fun K hK => ?_) AllReadyH.nil
                refine step_appendG entTy (by decide) encE_len encE_one (by rfl) (.tmp 89) (.tmp 90) (by rfl) (some ⟨vc.heap.size, 0, none⟩) 0 [] (by rfl) GE.out Ag gc lg (by rw [NL.out]; rfl) RE.out (by rw [NL.out]; simp only [maxLen, List.length_nil]; omega) (by rw [NL.out]; simp only [List.length_nil]; omega) ?_
                intro Aw cw wc h7 k7 q7
                rw [List.nil_append] at h7 ⊢
                rw [NL.out]
                have BC := Lib.hid (show Below vc.heap.size vc wc from BE.out.trans (k7.below (by simp [World.drew]) fun k i _ hf => by
                    obtain ⟨o, _, h3, h4⟩ := hf
                    simp at h3 h4
                    omega))
                have OC := Lib.hid (show okP wc ⟨Aw, gn, cw, lg⟩ from ⟨h7, NL.out⟩)
                have LC := Lib.hid (show ∀ k, blkOf Aw k → vc.heap.size ≤ k from fun k hk => by
                    obtain ⟨a, e, rfl⟩ := hk
                    rcases q7 with ⟨e1, _⟩ | ⟨g, e1, hg⟩
                    · rw [e1] at e; cases e; exact Nat.le_refl _
                    · rw [e1] at e; cases e
                      simp [World.drew] at hg
                      show vc.heap.size ≤ g
                      omega)
                have cb2 := CB.out wc BC.out
                have BD := Lib.hid (BC.out.trans (((Below.refl wc.heap.size wc).alloc (Nat.le_refl _) (.cells #[.slice Aw gn cw] 27)).mono BC.out.size))
                have cb3 := CB.out _ BD.out
                have GD := Lib.hid (show GSl encP 1 27 (wc.alloc (.cells #[.slice Aw gn cw] 27)) (Vc 3).A (Vc 3).c (Vc 3).P from (Bc.out.below BD.out).row 3)
                have RD := Lib.hid (show RdS encP 1 (wc.alloc (.cells #[.slice Aw gn cw] 27)) (some ⟨wc.heap.size, 0, none⟩) [(⟨Aw, gn, cw, lg⟩ : PV)] from RdS.new1 encP 1 wc 27 ⟨Aw, gn, cw, lg⟩)
                have HL9 := Lib.hid (show ((Vc 3).P ++ [(⟨Aw, gn, cw, lg⟩ : PV)]).length = kn + 2 by rw [List.length_append, Kc3.out]; rfl)
                clear h7 k7 q7
                refine hK.out _ _ trivial (fun hHeld => ?_)
                clear hK K
                try simp only [Act.put, List.setIfInBounds_toArray, List.set_cons_zero, List.set_cons_succ]
                refine wpAnyH_ready (rs := [4, 8]) (by kernel_rfl) (by simp) ?_
                refine AllReadyH.cons rfl (fun K hK => ?_) ?_
                · go_simp
                  refine hK.out _ _ trivial (fun hHeld => ?_)
                  clear hK K
                  try simp only [Act.put, List.setIfInBounds_toArray, List.set_cons_zero, List.set_cons_succ]
                  refine wpAnyH_ready (rs := [8]) (by kernel_rfl) (by simp) ?_
                  refine AllReadyH.cons rfl (fun K hK => ?_) AllReadyH.nil
                  go_simp
                  refine hK.out _ _ trivial (fun hHeld => ?_)
                  clear hK K
                  try simp only [Act.put, List.setIfInBounds_toArray, List.set_cons_zero, List.set_cons_succ]
                  refine wpAnyH_ready (rs := [9]) (by kernel_rfl) (by simp) ?_
                  refine AllReadyH.cons rfl (fun K hK => ?_) AllReadyH.nil
                  refine step_appendG slTy2 (by decide) encP_len encP_one (by rfl) (.tmp 88) (.tmp 92) (by rfl) (Vc 3).A (Vc 3).c (Vc 3).P (by rw [Kc3.out]; rfl) GD.out (some ⟨wc.heap.size, 0, none⟩) 1 [(⟨Aw, gn, cw, lg⟩ : PV)] (by rfl) RD.out (by rw [Kc3.out]; simp only [maxLen, List.length_singleton]; omega) (by rw [Kc3.out]; simp only [List.length_singleton]; omega) ?_
                  intro A9 c9 w9 h9 k9 q9
                  rw [HL9.out]
                  obtain ⟨Vb, P1, P3, P4⟩ := Bc.out.pushed BD.out 3 h9 k9 q9 (OC.out.below ((Below.refl wc.heap.size wc).alloc (Nat.le_refl _) _)) (fun e => absurd e (by decide)) (fun j q hq hj => by
                    rcases hj with rfl | e
                    · rw [Zc.out] at hq; cases hq
                    · exact absurd e (by decide))
                  rw [HL9.out] at P1
                  have P3' : w9.cell? ⟨B, 3, none⟩ = some (.slice (Vc 3).A (kn + 1) (Vc 3).c) := by rw [← Kc3.out]; exact P3
                  have P4' : w9.frozen? ⟨B, 3, none⟩ = false := P4
                  have HPB := Lib.hid (show Pushed B m 3 ⟨Aw, gn, cw, lg⟩ vc (w9.setCell ⟨B, 3, none⟩ (.slice A9 (kn + 2) c9)) Vc Vb from P1)
                  clear h9 k9 q9 P1 P3 P4
                  refine hK.out _ _ trivial (fun hHeld => ?_)
                  clear hK K
                  try simp only [Act.put, List.setIfInBounds_toArray, List.set_cons_zero, List.set_cons_succ]
                  refine take_on (i := 10) (some 94) (v := ?vr37) rfl rfl (by kernel_rfl) (by kernel_rfl) (by kernel_rfl) (fun _ _ _ h => h) (by rfl) ?hyr37 (by with_reducible exact hHeld) ?restr37
                  case hyr37 => (intro wS hSw; (try dsimp only at hSw); go_simp; try with_reducible rfl)
                  try simp only [Act.put, List.setIfInBounds_toArray, List.set_cons_zero, List.set_cons_succ]
                  refine take_on (i := 11) (some 95) (v := ?vr38) rfl rfl (by kernel_rfl) (by kernel_rfl) (by kernel_rfl) (fun _ _ _ h => h) (by rfl) ?hyr38 (by with_reducible exact hHeld) ?restr38
                  case hyr38 => (intro wS hSw; (try dsimp only at hSw); go_simp; try with_reducible rfl)
                  try simp only [Act.put, List.setIfInBounds_toArray, List.set_cons_zero, List.set_cons_succ]
                  refine wpAnyH_ready (rs := [12]) (by kernel_rfl) (by simp) ?_
                  refine AllReadyH.cons rfl (fun K hK => ?_) AllReadyH.nil
                  go_simp
                  refine hK.out _ _ (trivial) (fun hHeld => ?_)
                  clear hK K
                  try simp only [Act.put, List.setIfInBounds_toArray, List.set_cons_zero, List.set_cons_succ]
                  refine wpAnyH_done (by kernel_rfl) ?_ _
                  refine NoPanic.normal ?_
                  go_wp2
                  go_end0
                  exact ⟨rfl, FIN.out Aw cw Vb _ HPB.out LC.out⟩
                · refine AllReadyH.cons rfl (fun K hK => ?_) AllReadyH.nil
                  go_simp
                  refine hK.out _ _ trivial (fun hHeld => ?_)
                  clear hK K
                  try simp only [Act.put, List.setIfInBounds_toArray, List.set_cons_zero, List.set_cons_succ]
                  refine wpAnyH_ready (rs := [4]) (by kernel_rfl) (by simp) ?_
                  refine AllReadyH.cons rfl (fun K hK => ?_) AllReadyH.nil
                  go_simp
                  refine hK.out _ _ trivial (fun hHeld => ?_)
                  clear hK K
                  try simp only [Act.put, List.setIfInBounds_toArray, List.set_cons_zero, List.set_cons_succ]
                  refine wpAnyH_ready (rs := [9]) (by kernel_rfl) (by simp) ?_
                  refine AllReadyH.cons rfl (fun K hK => ?_) AllReadyH.nil
                  refine step_appendG slTy2 (by decide) encP_len encP_one (by rfl) (.tmp 88) (.tmp 92) (by rfl) (Vc 3).A (Vc 3).c (Vc 3).P (by rw [Kc3.out]; rfl) GD.out (some ⟨wc.heap.size, 0, none⟩) 1 [(⟨Aw, gn, cw, lg⟩ : PV)] (by rfl) RD.out (by rw [Kc3.out]; simp only [maxLen, List.length_singleton]; omega) (by rw [Kc3.out]; simp only [List.length_singleton]; omega) ?_
                  intro A9 c9 w9 h9 k9 q9
                  rw [HL9.out]
                  obtain ⟨Vb, P1, P3, P4⟩ := Bc.out.pushed BD.out 3 h9 k9 q9 (OC.out.below ((Below.refl wc.heap.size wc).alloc (Nat.le_refl _) _)) (fun e => absurd e (by decide)) (fun j q hq hj => by
                    rcases hj with rfl | e
                    · rw [Zc.out] at hq; cases hq
                    · exact absurd e (by decide))
                  rw [HL9.out] at P1
                  have P3' : w9.cell? ⟨B, 3, none⟩ = some (.slice (Vc 3).A (kn + 1) (Vc 3).c) := by rw [← Kc3.out]; exact P3
                  have P4' : w9.frozen? ⟨B, 3, none⟩ = false := P4
                  have HPB := Lib.hid (show Pushed B m 3 ⟨Aw, gn, cw, lg⟩ vc (w9.setCell ⟨B, 3, none⟩ (.slice A9 (kn + 2) c9)) Vc Vb from P1)
                  clear h9 k9 q9 P1 P3 P4
                  refine hK.out _ _ trivial (fun hHeld => ?_)
                  clear hK K
                  try simp only [Act.put, List.setIfInBounds_toArray, List.set_cons_zero, List.set_cons_succ]
                  refine take_on (i := 10) (some 94) (v := ?vr39) rfl rfl (by kernel_rfl) (by kernel_rfl) (by kernel_rfl) (fun _ _ _ h => h) (by rfl) ?hyr39 (by with_reducible exact hHeld) ?restr39
                  case hyr39 => (intro wS hSw; (try dsimp only at hSw); go_simp; try with_reducible rfl)
                  try simp only [Act.put, List.setIfInBounds_toArray, List.set_cons_zero, List.set_cons_succ]
                  refine take_on (i := 11) (some 95) (v := ?vr40) rfl rfl (by kernel_rfl) (by kernel_rfl) (by kernel_rfl) (fun _ _ _ h => h) (by rfl) ?hyr40 (by with_reducible exact hHeld) ?restr40
                  case hyr40 => (intro wS hSw; (try dsimp only at hSw); go_simp; try with_reducible rfl)
                  try simp only [Act.put, List.setIfInBounds_toArray, List.set_cons_zero, List.set_cons_succ]
                  refine wpAnyH_ready (rs := [12]) (by kernel_rfl) (by simp) ?_
                  refine AllReadyH.cons rfl (fun K hK => ?_) AllReadyH.nil
                  go_simp
                  refine hK.out _ _ (trivial) (fun hHeld => ?_)
                  clear hK K
                  try simp only [Act.put, List.setIfInBounds_toArray, List.set_cons_zero, List.set_cons_succ]
                  refine wpAnyH_done (by kernel_rfl) ?_ _
                  refine NoPanic.normal ?_
                  go_wp2
                  go_end0
                  exact ⟨rfl, FIN.out Aw cw Vb _ HPB.out LC.out⟩
end Go.Proofs.Ytagkhhoimgighaa
