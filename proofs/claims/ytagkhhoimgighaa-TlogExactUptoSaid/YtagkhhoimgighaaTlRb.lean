/- The document's log: Ack, by contract. -/
import Derived.Test.YtagkhhoimgighaaTlRa
import Derived.Deep.CutBlock
import Derived.Deep.DeepCutAuto
namespace Go.Proofs.Ytagkhhoimgighaa
open Go.RowKit
set_option linter.unusedVariables false
set_option linter.unusedSimpArgs false
theorem GSl.setAt {α : Type} {enc : α → List Value} {sz : Nat} {e : TypeId} {w : World} {g o c : Nat} {l : List α} (h : GSl enc sz e w (some ⟨g, o, none⟩) c l) (hsz : ∀ x, (enc x).length = sz) {i j : Nat} {x y : α} {u : Value} (hx : l[i]? = some x) (hj : j < sz) (he : enc y = (enc x).set j u) :
    GSl enc sz e (w.setCell ⟨g, o + (i * sz + j), none⟩ u) (some ⟨g, o, none⟩) c (l.set i y) := by
  rcases h with ⟨h, _⟩ | ⟨g', o', cs, ha, k1, k2, k3, k4, k5⟩
  · cases h
  cases ha
  have hi := (List.getElem?_eq_some_iff.1 hx).1
  have hic : (i + 1) * sz ≤ c * sz := Nat.mul_le_mul_right _ (by omega)
  rw [Nat.add_mul] at hic
  refine .inr ⟨g, o, cs.setIfInBounds (o + (i * sz + j)) u, rfl, by rw [List.length_set]; exact k1, k2, by simp [World.setCell, Array.getElem?_modify, k3], by simpa using k4, fun k z hz q v hv => ?_⟩
  have hk := (List.getElem?_eq_some_iff.1 hz).1
  have hq := (List.getElem?_eq_some_iff.1 hv).1
  rw [hsz] at hq
  rw [List.length_set] at hk
  by_cases e1 : k = i
  · subst e1
    rw [List.getElem?_set_self hi] at hz
    cases hz
    rw [he] at hv
    by_cases e2 : q = j
    · subst e2
      rw [List.getElem?_set_self (by rw [hsz]; exact hq)] at hv
      rw [Array.getElem?_setIfInBounds_self_of_lt (by omega)]
      exact hv
    · rw [List.getElem?_set_ne (fun e => e2 e.symm)] at hv
      rw [Array.getElem?_setIfInBounds_ne (by omega)]
      exact k5 k x hx q v hv
  · rw [List.getElem?_set_ne (fun e => e1 e.symm)] at hz
    rw [Array.getElem?_setIfInBounds_ne (by
      rcases Nat.lt_or_ge k i with h | h
      · have : (k + 1) * sz ≤ i * sz := Nat.mul_le_mul_right _ h
        rw [Nat.add_mul] at this
        omega
      · have : (i + 1) * sz ≤ k * sz := Nat.mul_le_mul_right _ (by omega)
        rw [Nat.add_mul] at this
        omega)]
    exact k5 k z hz q v hv
theorem modify_set {α : Type} {l : List α} {i : Nat} {x : α} (f : α → α) (hx : l[i]? = some x) : l.modify i f = l.set i (f x) := by
  refine List.ext_getElem? fun k => ?_
  rw [List.getElem?_modify]
  by_cases e : k = i
  · subst e
    rw [hx, List.getElem?_set_self (List.getElem?_eq_some_iff.1 hx).1]
    simp
  · rw [List.getElem?_set_ne (fun h => e h.symm)]
    cases l[k]? with
    | none => rfl
    | some y => simp [show ¬ i = k from fun h => e h.symm]
section
variable {w w' : World} {R : Nat} {r : RefT} {F : Nat → Prop}
set_option maxRecDepth 20000 in
set_option maxHeartbeats 4000000 in
theorem rack_any (id : Int) (h : RefAt w R r F) (hl : r.lines.length ≤ 1024) :
    Calls Try.prog 36 #[.pointer (some ⟨R, 0, none⟩), .int .i64 id] w fun e w' => e = .returned (.tuple #[entV (rAckE r id).1 (rAckE r id).2.1 (rAckE r id).2.2, .int .i64 (rAckR r id)]) ∧ RefAt w' R (rAckT r id) F ∧ Chg (fun k _ => F k) w w' := by
  obtain ⟨A, c, h, hF⟩ := h
  obtain ⟨pn, hpn⟩ : ∃ pn, r.lines.length = pn := ⟨_, rfl⟩
  rw [hpn] at hl
  have kA : Below w.heap.size w (w.alloc (.cells #[.int .i64 0, .int .i64 0, .int .i64 0] 36)) := (Below.refl _ w).alloc (Nat.le_refl _) _
  have he : Blk (w.alloc (.cells #[.int .i64 0, .int .i64 0, .int .i64 0] 36)) w.heap.size 36 #[.int .i64 0, .int .i64 0, .int .i64 0] := Blk.new w _ _
  obtain ⟨w0, hw0⟩ : ∃ W, W = w.alloc (.cells #[.int .i64 0, .int .i64 0, .int .i64 0] 36) := ⟨_, rfl⟩
  have hA := h.below kA
  rw [← hw0] at kA he hA
  have hRlt := h.blk.lt
  have hFlt : ∀ k, F k → k < w.heap.size := fun k hk => by
    obtain ⟨_, _, hb, _⟩ := h.typ ((hF k).1 hk)
    exact hb.lt
  have c0 : w0.cell? ⟨R, 0, none⟩ = some (.slice A pn c) := by rw [← hpn]; exact hA.blk.cell 0
  have GF := Lib.hid (rfind_any R pn c A r.lines id w0 hpn (by omega) c0 hA.row.rds)
  have HA := Lib.hid hA
  have HF := Lib.hid hF
  have HK := Lib.hid kA
  have HFL := Lib.hid hFlt
  have hw0' : w.alloc (.cells #[.int .i64 0, .int .i64 0, .int .i64 0] 36) = w0 := hw0.symm
  have H0 := Lib.hid hw0'
  have fin : ∀ w2, w0.grownBy w2 (some w.heap.size) → ∀ {cs : Array Value}, Blk w2 w.heap.size 36 cs → cs.size = 3 → RefAt w2 R r F ∧ Chg (fun k _ => F k) w w2 := fun w2 hg2 cs hb2 hs2 => by
    have k2 : Chg (fun k _ => w.heap.size ≤ k) w0 w2 := Chg.of_row (F := fun k _ => w.heap.size ≤ k) hg2 he hb2 (by simpa using hs2) fun _ => Nat.le_refl _
    have k1 : Chg (fun k _ => w.heap.size ≤ k) w w0 := by rw [← H0.out]; exact Chg.alloc _ _ _
    refine ⟨⟨A, c, HA.out.chg k2 fun k hk i hle => ?_, HF.out⟩, (k1.trans k2 fun _ _ _ h => h).mono fun k i hk hle => by omega⟩
    have := HFL.out k ((HF.out k).2 hk)
    omega
  have FIN := Lib.hid fin
  clear h hA hF kA hFlt hw0 hw0' fin
  cases hp : posR r.lines id with
  | none =>
    have hR : rAckR r id = 103 := by unfold rAckR; rw [hp]
    have hE : rAckE r id = (0, 0, 0) := by unfold rAckE; rw [hp]
    have hT : rAckT r id = r := by unfold rAckT; rw [hR]; rfl
    rw [hR, hE, hT]
    rw [show posI r.lines id = -1 from by unfold posI; rw [hp]] at GF
    clear hR hE hT hp
    go_enter Try.func36, Try.ntmps36
    go_wp2_with fail
    rw [H0.out]
    refine GF.out.mono ?_
    rintro e w' ⟨rfl, rfl⟩
    go_wp2_with (first | ((with_reducible refine wpList_store_blk rfl 36 (.tmp 4) (.tmp 12) rfl w.heap.size 36 #[.int .i64 0, .int .i64 0, .int .i64 0] #[.int .i64 0, .int .i64 0, .int .i64 0] ?hb rfl rfl (entSz _ _ _) (size3 _ _ _ _ _ _) (one3 rfl rfl rfl) ?_); (case hb => exact he); intro w2 hb2 hg2 hs2))
    refine bodyPost_cell_tmp (u := 5) (p := 4) rfl w.heap.size 36 _ (0, 0) _ rfl hb2 Try.underlying36 rfl (entSz _ _ _) rfl ⟨rfl, ?_⟩
    exact FIN.out w2 hg2 hb2 rfl
  | some i =>
    have hlt : i < r.lines.length := by
      have := hp
      unfold posR at this
      rw [List.findIdx?_eq_some_iff_getElem] at this
      exact this.1
    obtain ⟨g, off, x, hA, hg, hx, hcell⟩ := HA.out.row.rds.at_ hlt
    obtain ⟨xi, xb, xe, xa⟩ := x
    have x0 : w0.cell? ⟨g, off + i * 4, none⟩ = some (.int .i64 xi) := hcell 0 _ rfl
    have x1 : w0.cell? ⟨g, off + i * 4 + 1, none⟩ = some (.int .i64 xb) := hcell 1 _ rfl
    have x2 : w0.cell? ⟨g, off + i * 4 + 2, none⟩ = some (.int .i64 xe) := hcell 2 _ rfl
    have x3 : w0.cell? ⟨g, off + i * 4 + 3, none⟩ = some (.bool xa) := hcell 3 _ rfl
    rw [hpn] at hlt
    have hi' : (i : Int) < (pn : Int) := by omega
    have hi0 : ¬ (i : Int) < 0 := by omega
    rw [show posI r.lines id = (i : Int) from by unfold posI; rw [hp]] at GF
    subst hA
    cases xa with
    | true =>
      have hR : rAckR r id = 102 := by unfold rAckR; rw [hp]; dsimp only; rw [hx]; rfl
      have hE : rAckE r id = (0, 0, 0) := by unfold rAckE; rw [hp]; dsimp only; rw [hx]; rfl
      have hT : rAckT r id = r := by unfold rAckT; rw [hR]; rfl
      rw [hR, hE, hT]
      clear hR hE hT hp hcell hx
      go_enter Try.func36, Try.ntmps36
      go_wp2_with fail
      rw [H0.out]
      refine GF.out.mono ?_
      rintro e w' ⟨rfl, rfl⟩
      go_wp2_with (first | ((with_reducible refine wpList_store_blk rfl 36 (.tmp 4) (.tmp 21) rfl w.heap.size 36 #[.int .i64 0, .int .i64 0, .int .i64 0] #[.int .i64 0, .int .i64 0, .int .i64 0] ?hb rfl rfl (entSz _ _ _) (size3 _ _ _ _ _ _) (one3 rfl rfl rfl) ?_); (case hb => exact he); intro w2 hb2 hg2 hs2))
      refine bodyPost_cell_tmp (u := 5) (p := 4) rfl w.heap.size 36 _ (0, 0) _ rfl hb2 Try.underlying36 rfl (entSz _ _ _) rfl ⟨rfl, ?_⟩
      exact FIN.out w2 hg2 hb2 rfl
    | false =>
      have hR : rAckR r id = 0 := by unfold rAckR; rw [hp]; dsimp only; rw [hx]; rfl
      have hE : rAckE r id = (xi, xb, xe) := by unfold rAckE; rw [hp]; dsimp only; rw [hx]; rfl
      have hT : rAckT r id = { r with lines := r.lines.set i (xi, xb, xe, true) } := by
        unfold rAckT
        rw [hR, hp]
        dsimp only
        rw [modify_set ackL hx]
        rfl
      rw [hR, hE, hT]
      have z3 : w0.frozen? ⟨g, off + i * 4 + 3, none⟩ = false := by
        obtain ⟨cs, hb⟩ := line_blk HA.out.row ⟨_, rfl, rfl⟩
        exact hb.frozen _
      obtain ⟨w1, hw1⟩ : ∃ W, W = w0.setCell ⟨g, off + i * 4 + 3, none⟩ (.bool true) := ⟨_, rfl⟩
      have HW1 := Lib.hid hw1.symm
      have hgE : g ≠ w.heap.size := by
        obtain ⟨cs, hb⟩ := line_blk HA.out.row ⟨_, rfl, rfl⟩
        exact blk_type_ne hb he (by decide)
      have hgR : g ≠ R := by
        obtain ⟨cs, hb⟩ := line_blk HA.out.row ⟨_, rfl, rfl⟩
        exact blk_type_ne hb HA.out.blk (by decide)
      have kS : Chg (fun k i' => k = g ∧ i' = off + i * 4 + 3) w0 w1 := by rw [hw1]; exact Chg.setCell (fun k i' => k = g ∧ i' = off + i * 4 + 3) w0 ⟨rfl, rfl⟩ _
      have he1 : Blk w1 w.heap.size 36 #[.int .i64 0, .int .i64 0, .int .i64 0] := kS.blk he fun _ e => hgE e.1.symm
      have y0 : w1.cell? ⟨g, off + i * 4, none⟩ = some (.int .i64 xi) := kS.cell (fun e => by have := e.2; omega) x0
      have y1 : w1.cell? ⟨g, off + i * 4 + 1, none⟩ = some (.int .i64 xb) := kS.cell (fun e => by have := e.2; omega) x1
      have y2 : w1.cell? ⟨g, off + i * 4 + 2, none⟩ = some (.int .i64 xe) := kS.cell (fun e => by have := e.2; omega) x2
      have hR1 : Blk w1 R 79 #[.slice (some ⟨g, off, none⟩) r.lines.length c, .int .i64 r.now, .int .i64 r.limit, .int .i64 r.each] := kS.blk HA.out.blk fun _ e => hgR e.1.symm
      have d0 : w1.cell? ⟨R, 0, none⟩ = some (.slice (some ⟨g, off, none⟩) pn c) := by rw [← hpn]; exact hR1.cell 0
      have HA1 := Lib.hid (show RefIn w1 R { r with lines := r.lines.set i (xi, xb, xe, true) } (some ⟨g, off, none⟩) c from
        ⟨by dsimp only; rw [List.length_set]; exact hR1, by
          have := HA.out.row.setAt encL_len (j := 3) (y := (xi, xb, xe, true)) (u := .bool true) hx (by omega) rfl
          rw [hw1]
          exact this, HA.out.loc⟩)
      have KS := Lib.hid kS
      clear hR hE hT hp hcell hx hw1 kS hR1
      go_enter Try.func36, Try.ntmps36
      go_wp2_with fail
      rw [H0.out]
      refine GF.out.mono ?_
      rintro e w' ⟨rfl, rfl⟩
      go_upto_region 7 with fail
      rw [HW1.out]
      go_wp2_with (first | ((with_reducible refine wpList_store_blk rfl 36 (.tmp 4) (.tmp 36) rfl w.heap.size 36 #[.int .i64 0, .int .i64 0, .int .i64 0] #[.int .i64 xi, .int .i64 xb, .int .i64 xe] ?hb rfl rfl (entSz _ _ _) (size3 _ _ _ _ _ _) (one3 rfl rfl rfl) ?_); (case hb => exact he1); intro w2 hb2 hg2 hs2))
      have k2 : Chg (fun k _ => w.heap.size ≤ k) w1 w2 := Chg.of_row (F := fun k _ => w.heap.size ≤ k) hg2 he1 hb2 rfl fun _ => Nat.le_refl _
      have k1 : Chg (fun k _ => w.heap.size ≤ k) w w0 := by rw [← H0.out]; exact Chg.alloc _ _ _
      have hFg : F g := (HF.out g).2 (.inr ⟨_, rfl, rfl⟩)
      have kF : Chg (fun k _ => F k) w w2 := ((k1.mono fun k i hk hle => by omega).trans KS.out fun k i hk e => by rw [e.1]; exact hFg).trans k2 fun k i hk hle => by omega
      refine bodyPost_cell_tmp (u := 5) (p := 4) rfl w.heap.size 36 _ (0, 0) _ rfl hb2 Try.underlying36 rfl (entSz _ _ _) rfl ⟨rfl, ?_, kF⟩
      refine ⟨some ⟨g, off, none⟩, c, HA1.out.chg k2 fun k hk i hle => ?_, HF.out⟩
      have := HFL.out k ((HF.out k).2 hk)
      omega
end
end Go.Proofs.Ytagkhhoimgighaa
