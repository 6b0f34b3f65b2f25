/- The transfer log: Unacked, by contract: the walk. -/
import Derived.Test.YtagkhhoimgighaaTlUb
namespace Go.Proofs.Ytagkhhoimgighaa
open Go.RowKit
set_option linter.unusedVariables false
set_option linter.unusedSimpArgs false
theorem mk_ents (L : Nat) (h : L ≤ 1000000) : ∃ cs : Array Value, (∀ W : World, (Instr.makeSlice 27 (.int .i64 0) (.int .i64 (L : Int))).run Try.prog W = .ok (.slice (some ⟨W.heap.size, 0, none⟩) 0 L) (W.alloc (.cells cs 36))) ∧ cs.size = L * 3 := by
  obtain ⟨i, z, hi, hz, hs, hb, hc⟩ := entTy.ex
  refine ⟨madeCells z.cells (L * 3), fun W => ?_, size_madeCells _ _⟩
  have h2 := run_make W 27 36 i z entTy.und hi hz .i64 .i64 0 (L : Int) (by omega) (by omega) (by rw [hb]; omega) (by omega)
  rw [hs, Int.toNat_natCast] at h2
  exact h2
/-- append where there is room: the slice stays where it is -/
theorem run_appendR {P : Program} {α : Type} {enc : α → List Value} {sz bytes : Nat} {t e : TypeId} {w : World} (T : SlTy P t e sz bytes) (h0 : 0 < sz) (hsz : ∀ x, (enc x).length = sz) (h1 : ∀ x, ∀ v ∈ enc x, v.oneCell' = true) (ty : TypeId) {A : Option Addr} {c : Nat} {l : List α} (h : GSl enc sz e w A c l)
    {B : Option Addr} (cB : Nat) {m : List α} (hm : RdS enc sz w B m) (h63 : l.length + m.length ≤ maxLen) (hbytes : (l.length + m.length) * bytes ≤ 140737488355328) (hroom : l.length + m.length ≤ c) (hm0 : m ≠ []) :
    ∃ w', (Builtin.append_ #[t, t] ty #[.slice A l.length c, .slice B m.length cB]).run P w = .ok (.slice A (l ++ m).length c) w' ∧ GSl enc sz e w' A c (l ++ m) ∧ Chg (slFp sz A l.length c) w w' := by
  obtain ⟨A', c', w', hr, hg, hc, hq⟩ := run_appendG (P := P) T h0 hsz h1 ty h cB hm h63 hbytes
  have hmp : 0 < m.length := List.length_pos_iff.2 hm0
  rcases h with ⟨rfl, rfl, rfl⟩ | ⟨g, o, cs, rfl, k1, k2, k3, k4, k5⟩
  · omega
  · obtain ⟨i, z, hi, hz, hs, hby, hzs⟩ := T.ex
    subst hs
    have hfit : o + l.length * i.size + (m.flatMap enc).length ≤ cs.size := by
      have : (l.length + m.length) * i.size ≤ c * i.size := Nat.mul_le_mul_right _ hroom
      rw [Nat.add_mul] at this
      rw [flat_len hsz m]
      omega
    rcases B with _ | b
    · exact absurd hm.nil_of hm0
    · have hr2 := run_append_mid (P := P) t ty e i T.und hi g o l.length c cs k3 b m.length cB (m.flatMap enc) (flat_len hsz m) (hm.flat hsz h0 rfl) (fun u hu => by
        obtain ⟨x, _, hx⟩ := List.mem_flatMap.1 hu
        exact h1 x u hx) hroom hfit
      rw [hr2] at hr
      injection hr with e1 e2
      injection e1 with e3 e4 e5
      subst e3
      subst e5
      subst e2
      exact ⟨_, by rw [hr2, List.length_append], hg, hc⟩
theorem wpList_appendR {P : Program} {α : Type} {enc : α → List Value} {sz bytes : Nat} {t e : TypeId} {w : World} (T : SlTy P t e sz bytes) (h0 : 0 < sz) (hsz : ∀ x, (enc x).length = sz) (h1 : ∀ x, ∀ v ∈ enc x, v.oneCell' = true) {ops : Array Oper} {rest : List Oper} {o : Oper} {a : Act} {Q : Exit → Act → World → Prop} (hgd : o.guard = none) (s x : Operand)
    (ho : o.op = .call { callee := .builtin .append, args := #[s, x], argTypes := #[t, t] }) (A : Option Addr) (c : Nat) (l : List α) (hs : a.eval s = .slice A l.length c) (h : GSl enc sz e w A c l)
    (B : Option Addr) (cB : Nat) (m : List α) (hx : a.eval x = .slice B m.length cB) (hm : RdS enc sz w B m) (h63 : l.length + m.length ≤ maxLen) (hbytes : (l.length + m.length) * bytes ≤ 140737488355328) (hroom : l.length + m.length ≤ c) (hm0 : m ≠ [])
    (hK : ∀ w', GSl enc sz e w' A c (l ++ m) → Chg (slFp sz A l.length c) w w' → wpList P ops Q rest (a.put o.dst (.slice A (l ++ m).length c)) w') : wpList P ops Q (o :: rest) a w := by
  refine wpList_plain hgd fun K hk => ?_
  obtain ⟨w', hrun, g1, g2⟩ := run_appendR (P := P) T h0 hsz h1 o.type h cB hm h63 hbytes hroom hm0
  unfold Oper.wp execOp
  simp only [ho, resolve, invoke, builtin, Sem.run_bind, Sem.run_pure, Result.andThen_ok, List.map_toArray, List.map_cons, List.map_nil, hs, hx, hrun]
  exact hk _ _ (hK w' g1 g2)
/-- what Unacked gives: a list of its own without spare room -/
def UnQ (w : World) (s : LogS) (e : Ending) (w' : World) : Prop := ∃ A, e = .returned (.slice A (unA s.ws).length (unA s.ws).length) ∧ GSl encE 3 36 w' A (unA s.ws).length ((unA s.ws).map entW) ∧ Below w.heap.size w w' ∧ ∀ k i, slFp 3 A 0 (unA s.ws).length k i → w.heap.size ≤ k
def UnP (w : World) (s : LogS) (e : Ending) (w' : World) : Prop := ∃ A c, e = .returned (.slice A (unA s.ws).length c) ∧ GSl encE 3 36 w' A c ((unA s.ws).map entW) ∧ Below w.heap.size w w' ∧ ∀ k i, slFp 3 A 0 c k i → w.heap.size ≤ k
section
variable {w w' : World} {G : Nat} {s : LogS} {F : Nat → Nat → Prop}
set_option maxRecDepth 20000 in
set_option maxHeartbeats 8000000 in
theorem unacked_full (h : LogAt w G s F) (ht : s.ws.Pairwise fun x y => x.turn < y.turn) (hl : s.ws.length ≤ 100000) : Calls Try.prog 28 #[.pointer (some ⟨G, 0, none⟩)] w (UnQ w s) := by
  obtain ⟨A, c, b, n, h, _⟩ := h
  obtain ⟨c0, c1, c2, c3, c4, c5, c6⟩ := h.cells
  obtain ⟨D, hown, hat, hhas⟩ := h.map
  have H := Lib.hid h
  have HAT := Lib.hid hat
  have HHAS := Lib.hid hhas
  have HT := Lib.hid ht
  have hul : (unA s.ws).length ≤ 100000 := Nat.le_trans (unA_sub s.ws).length_le hl
  clear h c0 c1 c2 c3 c4 c5 hat hhas ht
  go_enter Try.func28, Try.ntmps28
  go_wp2_with (first
    | (at_range; refine wpList_range_own _ rfl _ 69 rfl 3 67 (Maps.int_keyed Try.underlying3) Try.underlying69 _ b n D rfl hown ?_; intro w1 hrg1 hg1 hs1))
  go_frame
  have B1 : Below w.heap.size w w1 := ⟨hg1.os, hg1.tape, hg1.output, hg1.size, fun k hk => hg1.block k hk (by simp)⟩
  have hst : ∀ x ∈ s.ws, (Maps.has D (.int .i64 x.id)) = true := fun x hx => by
    cases hh : Maps.has D (.int .i64 x.id) with
    | true => rfl
    | false =>
      have h1 := HAT.out x.id (H.out.ok x hx)
      rw [Maps.atKey_of_not_has hh, findW_at H.out.ids hx] at h1
      injection h1 with h1
      injection h1 with _ h1
      simp [ptrC] at h1
  have S0 := Lib.hid (show ([] ++ toCome s.ws (Maps.has D)).Perm (unA s.ws) by rw [List.nil_append, toCome_all hst])
  have HRG := Lib.hid hrg1
  have HB1 := Lib.hid B1
  clear hown hst hrg1 B1 hg1
  go_loopw [3] (fun t3 wr => ∃ (left : Lit → Bool) (cnt : Nat) (picks : List Wr), Hid (wr.ranges Try.prog 3 ptrR b w.heap.size n D left cnt) ∧ Hid (Own encPt 67 wr w.heap.size t3 picks) ∧ Hid ((picks ++ toCome s.ws left).Perm (unA s.ws)) ∧ Hid (Below w.heap.size w wr)) (fun _ wr => wr.rangeLeft b w.heap.size)
  case atStart => exact ⟨_, _, [], HRG, Lib.hid (Own.nil_ _ _ _ _), S0, HB1⟩
  case round =>
    obtain ⟨left, cnt, picks, hrg, hown, hperm, hB⟩ := hrel
    clear HRG HB1 S0
    go_wp2_with (first
      | (at_next; refine wpList_nextP (w := wr) rfl _ rfl Try.underlying3 rfl hrg.out HAT.out HHAS.out ?_ ?_))
    · -- nothing is left
      intro hl0
      have hp : picks.Perm (unA s.ws) := by have := hperm.out; rwa [toCome_none hl0, List.append_nil] at this
      have hpl := hp.length_eq
      have SO := Lib.hid (sort_any H.out hB.out rfl HT.out hp (Nat.le_refl _) hown.out (by omega))
      obtain ⟨L, hL⟩ : ∃ L, L = (unA s.ws).length := ⟨_, rfl⟩
      have HL := Lib.hid hL
      rw [← hL] at hul
      clear hrg hown hperm hp hpl hL hl0
      go_wp2_with fail
      refine SO.out.mono ?_
      rintro e w2 ⟨rfl, B2, A', cv, hv, hrd⟩
      rw [← HL.out] at hv
      subst hv
      obtain ⟨mcs, mk, hmc⟩ := mk_ents L (by omega)
      have Hmc := Lib.hid hmc
      clear hmc
      go_wp2_with fail
      have B3 : Below w.heap.size w (w2.alloc (.cells mcs 36)) := B2.alloc B2.size _
      have g0 : GSl encE 3 36 (w2.alloc (.cells mcs 36)) (some ⟨w2.heap.size, 0, none⟩) L [] := .inr ⟨_, 0, mcs, rfl, Nat.zero_le _, by unfold maxLen; omega, heap_alloc_new w2 _, by have := Hmc.out; omega, fun i x hx => by simp at hx⟩
      have HB3 := Lib.hid B3
      have HG0 := Lib.hid g0
      have HRD := Lib.hid (hrd.alloc (.cells mcs 36))
      have hs2 := B2.size
      obtain ⟨w3, hw3⟩ : ∃ W, W = w2.alloc (.cells mcs 36) := ⟨_, rfl⟩
      rw [← hw3] at HB3 HG0 HRD ⊢
      have hrlt : ∀ ad, A' = some ad → unA s.ws ≠ [] → ad.block < w2.heap.size := fun ad e hne => by
        obtain ⟨ad', e', hb⟩ := hrd.blk_lt hne
        rw [e] at e'
        cases e'
        exact hb
      have s3 : w3.heap.size = w2.heap.size + 1 := by rw [hw3]; simp
      obtain ⟨Z, hZ⟩ : ∃ Z, Z = w2.heap.size := ⟨_, rfl⟩
      rw [← hZ] at HG0 hrlt s3 hs2 ⊢
      have HRL := Lib.hid hrlt
      have HS3 := Lib.hid s3
      have Hs2 := Lib.hid hs2
      clear hrd B3 g0 hw3 B2 SO mk hZ hrlt s3 hs2
      go_loopw [6, 34] (fun t6 t34 wr => ∃ (k : Nat), k ≤ L ∧ t34 = .int .i64 k ∧ t6 = .slice (some ⟨Z, 0, none⟩) k L ∧ Hid (GSl encE 3 36 wr (some ⟨Z, 0, none⟩) L (((unA s.ws).take k).map entW)) ∧ Hid (Chg (fun j _ => Z ≤ j) w3 wr)) (fun _ t34 _ => L - (intOf t34).toNat)
      case atStart => exact ⟨0, Nat.zero_le _, rfl, rfl, Lib.hid (by simpa using HG0.out), Lib.hid (Chg.refl _ _)⟩
      case round =>
        obtain ⟨k, hk, rfl, rfl, hg, hC⟩ := hrel
        clear HG0
        have hB := Lib.hid (HB3.out.trans (hC.out.below (B := w.heap.size) HB3.out.size fun j i hj hle => by have := Hs2.out; omega))
        have hlen : (((unA s.ws).take k).map entW).length = k := by rw [List.length_map, List.length_take, ← HL.out]; omega
        have HLN := Lib.hid hlen
        clear hlen
        by_cases hlk : k < L
        · have hlk' : (k : Int) < (L : Int) := by omega
          obtain ⟨ad, x, hA, hx, hc⟩ := HRD.out.at_ (show k < (unA s.ws).length by rw [← HL.out]; exact hlk)
          subst hA
          have hne : unA s.ws ≠ [] := fun e => by rw [e] at hx; simp at hx
          have hab := HRL.out ad rfl hne
          have xm := (unA_sub s.ws).subset (List.mem_of_getElem? hx)
          have hst := (H.out.std x xm).below hB.out (H.out.std x xm).lt
          have p0 : wr.cell? (ad.add k) = some (.pointer (some ⟨x.at_, 0, none⟩)) := (hC.out.below (B := Z) (by have := HS3.out; omega) fun j i hj hle => by omega).cell (p := ad.add k) (by rw [blk_add]; exact hab) |>.trans hc
          have x0 : wr.cell? ⟨x.at_, 0, none⟩ = some (.int .i64 x.id) := hst.cell 0
          have x1 : wr.cell? ⟨x.at_, 1, none⟩ = some (.int .i64 x.blk) := hst.cell 1
          have x2 : wr.cell? ⟨x.at_, 2, none⟩ = some (.int .i64 x.ep) := hst.cell 2
          have hsn : ((unA s.ws).take (k + 1)).map entW = ((unA s.ws).take k).map entW ++ [entW x] := by rw [List.take_add_one, hx, List.map_append]; rfl
          have HSN := Lib.hid hsn
          have hmm := Nat.le_trans Hs2.out (Nat.le_of_lt (Nat.lt_of_lt_of_le (show Z < w3.heap.size by have := HS3.out; omega) hC.out.size))
          have hzr : Z ≤ wr.heap.size := by have := HS3.out; have := hC.out.size; omega
          have gin : GSl encE 3 36 (wr.alloc (.cells #[.int .i64 x.id, .int .i64 x.blk, .int .i64 x.ep] 36)) (some ⟨Z, 0, none⟩) L (((unA s.ws).take k).map entW) := hg.out.chg (Chg.alloc (fun k _ => wr.heap.size ≤ k) wr _) encE_len fun j i hj hle => by
            obtain ⟨o, e, _⟩ := hj
            cases e
            have := HS3.out; have := hC.out.size; omega
          have gnew : RdS encE 3 (wr.alloc (.cells #[.int .i64 x.id, .int .i64 x.blk, .int .i64 x.ep] 36)) (some ⟨wr.heap.size, 0, none⟩) [entW x] := RdS.new1 encE 3 wr 36 (entW x)
          clear hx hc hst hsn hne xm
          go_wp2_with (first
            | (at_builtin; refine wpList_appendR entTy (by decide) encE_len encE_one rfl (.tmp 38) (.tmp 43) rfl (some ⟨Z, 0, none⟩) L (((unA s.ws).take k).map entW) (by rw [HLN.out]; rfl) gin (some ⟨wr.heap.size, 0, none⟩) 1 [entW x] rfl gnew (by rw [HLN.out]; simp only [maxLen, List.length_singleton]; omega) (by rw [HLN.out]; simp only [List.length_singleton]; omega) (by rw [HLN.out]; simp only [List.length_singleton]; omega) (by simp) ?_; intro w5 g5 k5))
          have C5 : Chg (fun j _ => Z ≤ j) w3 w5 := (hC.out.trans (Chg.alloc (fun j _ => Z ≤ j) wr _) fun _ _ _ h => h).trans k5 fun j i _ hs => by obtain ⟨o', e, _⟩ := hs; cases e; exact Nat.le_refl _
          rw [← HSN.out] at g5
          go_roundw
          case rel => exact ⟨k + 1, by omega, by go_num, by have := HL.out; congr 1; omega, Lib.hid g5, Lib.hid C5⟩
          case measure => simp [intOf]; omega
        · obtain rfl : k = L := by omega
          have hg2 := hg.out
          rw [List.take_of_length_le (by rw [← HL.out]; exact Nat.le_refl _)] at hg2
          have fin : UnQ w s (.returned (.slice (some ⟨Z, 0, none⟩) k k)) wr := ⟨some ⟨Z, 0, none⟩, by rw [← HL.out], by rw [← HL.out]; exact hg2, hB.out, fun j i ⟨o', e, _⟩ => by cases e; exact Hs2.out⟩
          have HFi := Lib.hid fin
          clear fin hg2
          go_wp2_with fail
          go_ret
          exact HFi.out
    · intro id g w2 cnt2 hwid hfid hlk hrg2 hlt hg2 hs2 hen
      obtain ⟨x, hx, hid, hat⟩ := findW_mem hfid
      subst hid
      subst hat
      have hB2 := Lib.hid (hB.out.grown hg2 hB.out.size fun k hk => by cases hk; exact Nat.le_refl _)
      have hne := ranges_own_ne hrg.out hown.out
      have hown2 := Lib.hid (hown.out.grown hg2 (.inr fun e => hne.2 e.symm))
      have x4 : w2.cell? ⟨x.at_, 4, none⟩ = some (.bool x.acked) := ((H.out.std x hx).below hB2.out (H.out.std x hx).lt).cell 4
      have hpm := toCome_perm H.out.ids hx hlk
      have HPM := Lib.hid hpm
      have HRG2 := Lib.hid hrg2
      have Hlt := Lib.hid hlt
      have hmeas := Lib.hid (show w2.rangeLeft b w.heap.size < wr.rangeLeft b w.heap.size by rw [hrg2.left_eq, hrg.out.left_eq]; exact hlt)
      cases ha : x.acked with
      | true =>
        rw [ha] at x4 HPM
        clear hpm hrg hrg2 hg2 hlt hne hown ha hs2
        go_wp2_with fail
        go_roundw
        case rel => exact ⟨_, _, picks, HRG2, hown2, Lib.hid ((HPM.out.symm.append_left picks).trans hperm.out), hB2⟩
        case measure => exact hmeas.out
      | false =>
        rw [ha] at x4 HPM
        have hpl : picks.length ≤ 100000 := by
          have h1 := hperm.out.length_eq
          rw [List.length_append] at h1
          omega
        have hown3 := hown2.out.alloc (.cells #[encPt x] 67)
        clear hpm hrg hrg2 hg2 hlt hne hown ha hs2
        go_wp2_with (first
          | (at_builtin; refine wpList_appendO _ ptTy encPt_one rfl (.tmp 23) (.tmp 25) rfl w.heap.size _ _ [x] rfl hown3 (some ⟨w2.heap.size, 0, none⟩) 1 rfl (Rd.one encPt w2 67 x) (by simp only [maxLen, List.length_singleton]; omega) (by simp only [List.length_singleton]; omega) (by have := hB2.out.size; simp; omega) ?_; intro v3 w3 o3 hg3 hl3))
        have hrg3 := HRG2.out.alloc (.cells #[encPt x] 67)
        have hne2 := ranges_own_ne hrg3 hown3
        have hrg4 := hrg3.kept hg3 hne2.1 hne2.2
        have hB4 := Lib.hid (below_own (hB2.out.alloc hB2.out.size (.cells #[encPt x] 67)) hown3 (Nat.le_refl _) hg3 (by have := hB2.out.size; simp; omega))
        have hperm4 : ((picks ++ [x]) ++ toCome s.ws (strikeL left x.id)).Perm (unA s.ws) := by
          rw [List.append_assoc]
          exact (HPM.out.symm.append_left picks).trans hperm.out
        have hm4 : w3.rangeLeft b w.heap.size < wr.rangeLeft b w.heap.size := by
          rw [hrg4.left_eq, ← HRG2.out.left_eq]
          exact hmeas.out
        go_roundw
        case rel => exact ⟨_, _, picks ++ [x], Lib.hid hrg4, Lib.hid o3, Lib.hid hperm4, hB4⟩
        case measure => exact hm4
theorem unacked_any (h : LogAt w G s F) (ht : s.ws.Pairwise fun x y => x.turn < y.turn) (hl : s.ws.length ≤ 100000) : Calls Try.prog 28 #[.pointer (some ⟨G, 0, none⟩)] w (UnP w s) := by
  refine (unacked_full h ht hl).mono ?_
  rintro e w' ⟨A, h1, h2, h3, h4⟩
  exact ⟨A, _, h1, h2, h3, h4⟩
end
end Go.Proofs.Ytagkhhoimgighaa
