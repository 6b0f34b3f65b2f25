/- TlogExact: the law. -/
import Derived.Test.YtagkhhoimgighaaTlAs
import Derived.Test.YtagkhhoimgighaaTlT2
namespace Go.Proofs.Ytagkhhoimgighaa
open Go.RowKit
set_option linter.unusedVariables false
set_option linter.unusedSimpArgs false
def aL (o : Option (Nat × Nat)) : Option Addr := o.map fun p => ⟨p.1, 0, none⟩
def aR (o : Option (Nat × Nat)) : Option Addr := o.map fun p => ⟨p.2, 0, none⟩
abbrev pL (o : Option (Nat × Nat)) : Value := .pointer (aL o)
abbrev pR (o : Option (Nat × Nat)) : Value := .pointer (aR o)
theorem makes_any (limit width : Int) (w : World) : Calls Try.prog 21 #[.int .i64 limit, .int .i64 width] w fun e w' =>
    ∃ (o : Option (Nat × Nat)) (U : Nat → Nat → Prop), e = .returned (.tuple #[.agg #[pL o, pR o], .bool true]) ∧ Sd w' o 0 U ∧ Below w.heap.size w w' ∧ ∀ j i, U j i → w.heap.size ≤ j := by
  by_cases h : goodB limit width
  · refine (makes_yes limit width w h).mono ?_
    rintro e w' ⟨G, R, F, FR, rfl, h1, h2, h3, h4, h5, h6⟩
    refine ⟨some (G, R), fun j i => F j i ∨ FR j, rfl, ⟨_, _, F, FR, h1, h2, h6, ⟨Sim.made limit width, h, by show (0 : Int) ≤ limit; have := h.1; omega, Nat.le_refl _, by show (1 : Int) ≤ _; omega, by show (0 : Int) ≤ width; have := h.2.2.1; omega⟩, fun _ _ => Iff.rfl⟩, h3, fun j i hj => ?_⟩
    rcases hj with hj | hj
    · exact h4 j i hj
    · exact h5 j hj
  · refine (makes_no limit width w h).mono ?_
    rintro e w' ⟨rfl, h3⟩
    exact ⟨none, fun _ _ => False, rfl, fun _ _ h => h, h3, fun _ _ h => h.elim⟩
section
variable {w w' : World} {o1 o2 : Option (Nat × Nat)} {k : Nat} {U1 U2 FB Q0 Q1 : Nat → Nat → Prop} {B fn kn : Nat} {mk : Int}
theorem T2E.widen (h : T2E Q0 w o1 o2 B k) (hq : ∀ j i, Q0 j i → Q1 j i) : T2E Q1 w o1 o2 B k := by
  obtain ⟨U1, U2, FB, fn, kn, mk, h⟩ := h
  exact ⟨U1, U2, FB, fn, kn, mk, fun j hj i => hq j i (h.bs j hj i), h.s1, h.s2, h.bk, h.d12, h.d1B, h.d2B, fun j i hj => hq j i (h.q1 j i hj), fun j i hj => hq j i (h.q2 j i hj), fun j i hj => hq j i (h.qB j i hj), h.fn1, h.kn1, h.mk0, h.mk1⟩
/-- a block was laid, which the calls leave -/
theorem T2E.shrink {X : Nat} (h : T2E Q0 w o1 o2 B k) (hc : Chg (fun j _ => w.heap.size ≤ j) w w') (hX : w.heap.size ≤ X) (hX2 : X < w'.heap.size) : T2E (fun j i => Q0 j i ∧ j ≠ X) w' o1 o2 B k := by
  obtain ⟨U1, U2, FB, fn, kn, mk, h⟩ := h
  have l1 : ∀ j i, U1 j i → j < w.heap.size := fun j i hj => h.s1.lt hj
  have l2 : ∀ j i, U2 j i → j < w.heap.size := fun j i hj => h.s2.lt hj
  have lB : ∀ j i, FB j i → j < w.heap.size := fun j i hj => h.bk.lt hj
  exact ⟨U1, U2, FB, fn, kn, mk, fun j hj i => ⟨h.bs j (Nat.le_trans hc.size hj) i, by omega⟩, h.s1.chg hc fun j i hj hle => by have := l1 j i hj; omega, h.s2.chg hc fun j i hj hle => by have := l2 j i hj; omega, h.bk.chg hc fun j i hj hle => by have := lB j i hj; omega,
    h.d12, h.d1B, h.d2B, fun j i hj => ⟨h.q1 j i hj, by have := l1 j i hj; omega⟩, fun j i hj => ⟨h.q2 j i hj, by have := l2 j i hj; omega⟩, fun j i hj => ⟨h.qB j i hj, by have := lB j i hj; omega⟩, h.fn1, h.kn1, h.mk0, h.mk1⟩
theorem T2E.holds (h : T2E Q0 w o1 o2 B k) : Calls Try.prog 30 #[.pointer (some ⟨B, 0, none⟩)] w fun e w' => e = .returned (.bool true) ∧ Below w.heap.size w w' := by
  obtain ⟨U1, U2, FB, fn, kn, mk, h⟩ := h
  obtain ⟨V, hb, e1, e2, _⟩ := h.bk
  exact holds_any hb e1 e2
/-- a question, and then the call: on the first side -/
theorem T2E.asks {G R : Nat} (h : T2E Q0 w (some (G, R)) o2 B k) (kd of_ a b : Int) (hk : k ≤ 8388608) :
    Calls Try.prog 29 #[.agg #[.pointer (some ⟨G, 0, none⟩), .pointer (some ⟨R, 0, none⟩)], .agg #[.int .i64 kd, .int .i64 of_, .int .i64 a, .int .i64 b], .pointer (some ⟨B, 0, none⟩)] w fun e w' => e = .returned (.bool true) ∧ T2E Q0 w' (some (G, R)) o2 B (k + 2) ∧ Chg Q0 w w' := by
  obtain ⟨U1, U2, FB, fn, kn, mk, h⟩ := h
  obtain ⟨s, r, F, FR, p⟩ := h.ps
  refine (asks_any kd of_ a b p hk).mono ?_
  rintro e w' m
  exact T2E.call (h.later (Nat.le_succ k)) m
theorem T2E.moves {G R : Nat} (h : T2E Q0 w (some (G, R)) o2 B k) (tl : Bool) (kd of_ a b : Int) (hk : k ≤ 8388608) (hwa : (Lit.int .i64 a).wf = true) :
    Calls Try.prog 22 #[.agg #[.pointer (some ⟨G, 0, none⟩), .pointer (some ⟨R, 0, none⟩)], .agg #[.int .i64 kd, .int .i64 of_, .int .i64 a, .int .i64 b], .bool tl, .pointer (some ⟨B, 0, none⟩)] w fun e w' => e = .returned (.bool true) ∧ T2E Q0 w' (some (G, R)) o2 B (k + 1) ∧ Chg Q0 w w' := by
  obtain ⟨U1, U2, FB, fn, kn, mk, h⟩ := h
  obtain ⟨s, r, F, FR, p⟩ := h.ps
  refine (moves_any tl kd of_ a b p hk hwa).mono ?_
  rintro e w' m
  exact T2E.call h m
end
/-- a row of script and a block of the statement's own -/
def Row6 (v : World) (X sb so : Nat) (x y : Value) (kd of_ a b : Int) : Prop := v.cell? ⟨X, 0, none⟩ = some x ∧ v.cell? ⟨X, 1, none⟩ = some y ∧ v.cell? ⟨sb, so, none⟩ = some (.int .i64 kd) ∧ v.cell? ⟨sb, so + 1, none⟩ = some (.int .i64 of_) ∧ v.cell? ⟨sb, so + 2, none⟩ = some (.int .i64 a) ∧ v.cell? ⟨sb, so + 3, none⟩ = some (.int .i64 b)
theorem Row6.chg {F : Nat → Nat → Prop} {v v' : World} {X sb so : Nat} {x y : Value} {kd of_ a b : Int} (h : Row6 v X sb so x y kd of_ a b) (hc : Chg F v v') (h1 : ∀ i, ¬ F X i) (h2 : ∀ i, ¬ F sb i) : Row6 v' X sb so x y kd of_ a b :=
  ⟨hc.cell (h1 _) h.1, hc.cell (h1 _) h.2.1, hc.cell (h2 _) h.2.2.1, hc.cell (h2 _) h.2.2.2.1, hc.cell (h2 _) h.2.2.2.2.1, hc.cell (h2 _) h.2.2.2.2.2⟩
section
variable {limit width limit2 width2 : Int} {A0 : Option Addr} {c0 : Nat} {l : List (Int × Int × Int × Int)} {w : World}
set_option maxRecDepth 20000 in
set_option maxHeartbeats 16000000 in
theorem exact_law (limit width limit2 width2 : Int) (A0 : Option Addr) (c0 : Nat) (l : List (Int × Int × Int × Int)) (w : World) (_ : (Lit.int .i64 limit).wf = true) (_ : (Lit.int .i64 width).wf = true) (_ : (Lit.int .i64 limit2).wf = true) (_ : (Lit.int .i64 width2).wf = true) (hl : l.length ≤ 1048576) (hs : RdS encO4 4 w A0 l) (hwf : ∀ x ∈ l, (Lit.int .i64 x.2.2.1).wf = true) :
    Calls Try.prog 9 #[.int .i64 limit, .int .i64 width, .int .i64 limit2, .int .i64 width2, .slice A0 l.length c0] w fun e w' => e = .returned (.bool true) ∧ Below w.heap.size w w' := by
  have H1 := Lib.hid (makes_any limit width)
  have H2 := Lib.hid (makes_any limit2 width2)
  have Hwf := Lib.hid hwf
  have Hs := Lib.hid hs
  clear hwf hs
  go_enter Try.func9, Try.ntmps9
  go_wp2_with fail
  refine (H1.out _).mono ?_
  rintro e w1 ⟨o1, U1, rfl, S1, B1, f1⟩
  have HS1 := Lib.hid S1
  have HB1 := Lib.hid B1
  have HF1 := Lib.hid f1
  clear S1 B1 f1 H1
  go_upto_region 2 with fail
  obtain ⟨v1, hv1⟩ : ∃ W, W = w1.alloc (.cells #[pL o1, pR o1] 48) := ⟨_, rfl⟩
  rw [← hv1]
  have HV1 := Lib.hid hv1
  clear hv1
  go_wp2_with fail
  refine (H2.out _).mono ?_
  rintro e w2 ⟨o2, U2, rfl, S2, B2, f2⟩
  have HS2 := Lib.hid S2
  have HB2 := Lib.hid B2
  have HF2 := Lib.hid f2
  clear S2 B2 f2 H2
  go_upto_region 6 with fail
  obtain ⟨w3, hw3⟩ : ∃ W, W = (w2.alloc (.cells #[pL o2, pR o2] 48)).alloc (.cells #[.slice none 0 0, .slice none 0 0, .slice none 0 0, .slice none 0 0, .int .i64 0] 54) := ⟨_, rfl⟩
  rw [← hw3]
  obtain ⟨X, hX⟩ : ∃ X, X = w1.heap.size := ⟨_, rfl⟩
  obtain ⟨Y, hY⟩ : ∃ Y, Y = w2.heap.size := ⟨_, rfl⟩
  rw [← hX, ← hY]
  have s1 := HB1.out.size
  have bv1 : Below w1.heap.size w1 v1 := by rw [HV1.out]; exact (Below.refl _ w1).alloc (Nat.le_refl _) _
  have sv1 : v1.heap.size = w1.heap.size + 1 := by rw [HV1.out]; simp
  have s2 := HB2.out.size
  have b23 : Below w2.heap.size w2 w3 := by rw [hw3]; exact ((Below.refl _ w2).alloc (Nat.le_refl _) _).alloc (by simp) _
  have s3 : w3.heap.size = w2.heap.size + 2 := by rw [hw3]; simp
  have XB : Blk w3 X 48 #[pL o1, pR o1] := by
    have h0 : Blk v1 X 48 #[pL o1, pR o1] := by rw [HV1.out, hX]; exact Blk.new w1 _ _
    exact (h0.below HB2.out h0.lt).below b23 (by have := h0.lt; omega)
  have YB : Blk w3 Y 48 #[pL o2, pR o2] := by rw [hw3, hY]; exact (Blk.new w2 _ _).alloc _
  have BK : Blk w3 (Y + 1) 54 #[.slice none 0 0, .slice none 0 0, .slice none 0 0, .slice none 0 0, .int .i64 0] := by
    rw [hw3, hY]
    have := Blk.new (w2.alloc (.cells #[pL o2, pR o2] 48)) 54 #[.slice none 0 0, .slice none 0 0, .slice none 0 0, .slice none 0 0, .int .i64 0]
    rw [World.size_alloc] at this
    exact this
  have hBR : BkR w3 (Y + 1) 0 (fun _ => RV.nil_) := ⟨BK, fun _ => GSl.nil_, fun _ => .inl rfl, (fun _ _ _ k hk => by obtain ⟨_, e, _⟩ := hk; cases e), (fun _ p hp => by cases hp), (fun p hp => by cases hp), (fun p hp => by cases hp), List.Pairwise.nil⟩
  have hfb : ∀ k i, BkF (fun _ => RV.nil_) (Y + 1) k i → k = Y + 1 := fun k i hk => by
    rcases hk with e | ⟨_, _, e, _⟩ | ⟨_, p, hp, _⟩
    · exact e
    · cases e
    · cases hp
  have T0 : T2E (fun j _ => w.heap.size ≤ j ∧ j ≠ X ∧ j ≠ Y) w3 o1 o2 (Y + 1) 0 := by
    have l1 : ∀ j i, U1 j i → w.heap.size ≤ j ∧ j < w1.heap.size := fun j i hj => ⟨HF1.out j i hj, HS1.out.lt hj⟩
    have l2 : ∀ j i, U2 j i → v1.heap.size ≤ j ∧ j < w2.heap.size := fun j i hj => ⟨HF2.out j i hj, HS2.out.lt hj⟩
    refine ⟨U1, U2, BkF (fun _ => RV.nil_) (Y + 1), 0, 0, 0, fun j hj i => ⟨by omega, by omega, by omega⟩, ((HS1.out.chg (Chg.of_below (fun _ _ => False) bv1) fun _ _ _ h => h).chg (Chg.of_below (fun _ _ => False) HB2.out) fun _ _ _ h => h).chg (Chg.of_below (fun _ _ => False) b23) fun _ _ _ h => h,
      HS2.out.chg (Chg.of_below (fun _ _ => False) b23) fun _ _ _ h => h, ⟨_, hBR, rfl, rfl, rfl, rfl, (fun p hp => by cases hp), fun _ _ => Iff.rfl⟩, fun j i h1 h2 => by have := l1 j i h1; have := l2 j i h2; omega, fun j i h1 hb => by have := l1 j i h1; have := hfb j i hb; omega, fun j i h2 hb => by have := l2 j i h2; have := hfb j i hb; omega,
      fun j i h1 => by have := l1 j i h1; exact ⟨by omega, by omega, by omega⟩, fun j i h2 => by have := l2 j i h2; exact ⟨by omega, by omega, by omega⟩, fun j i hb => by have := hfb j i hb; exact ⟨by omega, by omega, by omega⟩, by omega, by omega, by omega, by omega⟩
  have HT0 := Lib.hid T0
  have HXB := Lib.hid XB
  have HYB := Lib.hid YB
  have B03 : Below w.heap.size w w3 := ((HB1.out.trans (bv1.mono s1)).trans (HB2.out.mono (by omega))).trans (b23.mono (by omega))
  have c03 := Lib.hid (show Chg (fun j _ => w.heap.size ≤ j ∧ j ≠ X ∧ j ≠ Y) w w3 from Chg.of_below _ B03)
  have hwX : w.heap.size ≤ X := by omega
  have hwY : w.heap.size ≤ Y := by omega
  clear hw3 XB YB BK hBR hfb T0 bv1 b23 s1 s2 s3 sv1 B03 hX hY HS1 HS2 HB1 HB2 HF1 HF2 HV1
  go_wp2_with fail
  go_loopw [16] (fun t16 wr => ∃ (k : Nat), k ≤ l.length ∧ t16 = .int .i64 k ∧ Hid (T2E (fun j _ => w.heap.size ≤ j ∧ j ≠ X ∧ j ≠ Y) wr o1 o2 (Y + 1) (3 * k)) ∧ Hid (Chg (fun j _ => w.heap.size ≤ j ∧ j ≠ X ∧ j ≠ Y) w wr) ∧ Hid (Blk wr X 48 #[pL o1, pR o1]) ∧ Hid (Blk wr Y 48 #[pL o2, pR o2])) (fun t16 _ => l.length - (intOf t16).toNat)
  case atStart => exact ⟨0, Nat.zero_le _, rfl, HT0, c03, HXB, HYB⟩
  case round =>
    obtain ⟨k, hk, rfl, hT, hC, hX, hY⟩ := hrel
    clear HT0 c03 HXB HYB
    have hB := Lib.hid (show Below w.heap.size w wr from hC.out.below (Nat.le_refl _) fun k i hk e => by have := e.1; omega)
    have z0 : wr.cell? ⟨X, 0, none⟩ = some (pL o1) := hX.out.cell 0
    have z1 : wr.cell? ⟨X, 1, none⟩ = some (pR o1) := hX.out.cell 1
    have y0 : wr.cell? ⟨Y, 0, none⟩ = some (pL o2) := hY.out.cell 0
    have y1 : wr.cell? ⟨Y, 1, none⟩ = some (pR o2) := hY.out.cell 1
    by_cases hkl : k < l.length
    case neg =>
      obtain rfl : k = l.length := by omega
      go_wp2
      go_ret
      exact ⟨rfl, hB.out⟩
    have hkl' : (k : Int) < (l.length : Int) := by omega
    obtain ⟨sb, so, ⟨kd, of_, a, b⟩, hA0, hsb, hx, hc⟩ := Hs.out.at_ hkl
    subst hA0
    have x0 : wr.cell? ⟨sb, so + k * 4, none⟩ = some (.int .i64 kd) := (hB.out.cell (p := ⟨sb, so + k * 4, none⟩) hsb).trans (hc 0 _ rfl)
    have x1 : wr.cell? ⟨sb, so + k * 4 + 1, none⟩ = some (.int .i64 of_) := (hB.out.cell (p := ⟨sb, so + k * 4 + 1, none⟩) hsb).trans (hc 1 _ rfl)
    have x2 : wr.cell? ⟨sb, so + k * 4 + 2, none⟩ = some (.int .i64 a) := (hB.out.cell (p := ⟨sb, so + k * 4 + 2, none⟩) hsb).trans (hc 2 _ rfl)
    have x3 : wr.cell? ⟨sb, so + k * 4 + 3, none⟩ = some (.int .i64 b) := (hB.out.cell (p := ⟨sb, so + k * 4 + 3, none⟩) hsb).trans (hc 3 _ rfl)
    have ha := Hwf.out _ (List.mem_of_getElem? hx)
    have HWA := Lib.hid ha
    have HKb := Lib.hid (show 3 * k + 2 ≤ 8388608 by omega)
    have hsbw : sb < w.heap.size := hsb
    clear hx hc ha
    obtain ⟨Z, hZ⟩ : ∃ Z, Z = wr.heap.size := ⟨_, rfl⟩
    have hszX := hX.out.lt
    have hszY := hY.out.lt
    obtain ⟨v0, hv0⟩ : ∃ W, W = wr.alloc (.cells #[pL o1, pR o1] 48) := ⟨_, rfl⟩
    have HV0 := Lib.hid hv0
    have sv0 : v0.heap.size = wr.heap.size + 1 := by rw [hv0]; simp
    have cv0 : Chg (fun j _ => wr.heap.size ≤ j) wr v0 := by rw [hv0]; exact Chg.alloc _ _ _
    have bv0 : Below wr.heap.size wr v0 := by rw [hv0]; exact (Below.refl _ wr).alloc (Nat.le_refl _) _
    have ZB : Blk v0 Z 48 #[pL o1, pR o1] := by rw [hv0, hZ]; exact Blk.new wr _ _
    -- what a round keeps, whatever it did behind the statement's own block
    have FIN := Lib.hid (show ∀ v6, T2E (fun j i => (w.heap.size ≤ j ∧ j ≠ X ∧ j ≠ Y) ∧ j ≠ Z) v6 o1 o2 (Y + 1) (3 * k + 3) → Chg (fun j i => w.heap.size ≤ j ∧ j ≠ X ∧ j ≠ Y) v0 v6 → Hid (T2E (fun j _ => w.heap.size ≤ j ∧ j ≠ X ∧ j ≠ Y) v6 o1 o2 (Y + 1) (3 * (k + 1))) ∧ Hid (Chg (fun j _ => w.heap.size ≤ j ∧ j ≠ X ∧ j ≠ Y) w v6) ∧ Hid (Blk v6 X 48 #[pL o1, pR o1]) ∧ Hid (Blk v6 Y 48 #[pL o2, pR o2]) from fun v6 ht hc6 => by
      have c0 : Chg (fun j (_ : Nat) => w.heap.size ≤ j ∧ j ≠ X ∧ j ≠ Y) wr v0 := Chg.of_below _ bv0
      refine ⟨Lib.hid ((ht.widen fun j i hj => hj.1).later (by omega)), Lib.hid ((hC.out.trans c0 fun _ _ _ h => h).trans hc6 fun _ _ _ h => h), Lib.hid ?_, Lib.hid ?_⟩
      · exact hc6.blk (c0.blk hX.out fun i h => h.2.1 rfl) fun i h => h.2.1 rfl
      · exact hc6.blk (c0.blk hY.out fun i h => h.2.2 rfl) fun i h => h.2.2 rfl)
    have TT := hT.out.shrink cv0 (show wr.heap.size ≤ Z by omega) (show Z < v0.heap.size by omega)
    have HTT := Lib.hid TT
    have hB0 := Lib.hid (show Below w.heap.size w v0 from hB.out.trans (bv0.mono hB.out.size))
    have HZB := Lib.hid ZB
    have x0' : v0.cell? ⟨sb, so + k * 4, none⟩ = some (.int .i64 kd) := (bv0.cell (p := ⟨sb, so + k * 4, none⟩) (by have := hB.out.size; show sb < _; omega)).trans x0
    have x1' : v0.cell? ⟨sb, so + k * 4 + 1, none⟩ = some (.int .i64 of_) := (bv0.cell (p := ⟨sb, so + k * 4 + 1, none⟩) (by have := hB.out.size; show sb < _; omega)).trans x1
    have x2' : v0.cell? ⟨sb, so + k * 4 + 2, none⟩ = some (.int .i64 a) := (bv0.cell (p := ⟨sb, so + k * 4 + 2, none⟩) (by have := hB.out.size; show sb < _; omega)).trans x2
    have x3' : v0.cell? ⟨sb, so + k * 4 + 3, none⟩ = some (.int .i64 b) := (bv0.cell (p := ⟨sb, so + k * 4 + 3, none⟩) (by have := hB.out.size; show sb < _; omega)).trans x3
    have q0 : v0.cell? ⟨Z, 0, none⟩ = some (pL o1) := ZB.cell 0
    have q1 : v0.cell? ⟨Z, 1, none⟩ = some (pR o1) := ZB.cell 1
    have u0 : v0.cell? ⟨Y, 0, none⟩ = some (pL o2) := (bv0.cell (p := ⟨Y, 0, none⟩) hszY).trans y0
    have u1 : v0.cell? ⟨Y, 1, none⟩ = some (pR o2) := (bv0.cell (p := ⟨Y, 1, none⟩) hszY).trans y1
    have hZX : Z ≠ X := by omega
    have hZY : Z ≠ Y := by omega
    have hwZ : w.heap.size ≤ Z := by have := hB.out.size; omega
    have R0 := Lib.hid (show Row6 v0 Z sb (so + k * 4) (pL o1) (pR o1) kd of_ a b from ⟨q0, q1, x0', x1', x2', x3'⟩)
    clear hv0 cv0 bv0 ZB TT hC x0 x2 x3 y0 y1 sv0
    go_upto_region 10 with fail
    rw [← hZ, ← HV0.out]
    clear hZ z0 z1 x1 HV0
    have zf0 : v0.frozen? ⟨Z, 0, none⟩ = false := HZB.out.frozen 0
    have zf1 : v0.frozen? ⟨Z, 1, none⟩ = false := HZB.out.frozen 1
    cases hpar : (bits BinOp.and IntKind.i64 of_ 1 == 1) with
    | false =>
      go_upto_region 12 with fail
      obtain ⟨v1, hv1⟩ : ∃ W, W = v0 := ⟨_, rfl⟩
      have TA := HTT.out
      rw [← hv1] at TA
      have RA := R0.out
      rw [← hv1] at RA
      have c01 : Chg (fun j i => w.heap.size ≤ j ∧ j ≠ X ∧ j ≠ Y) v0 v1 := by rw [hv1]; exact Chg.refl _ _
      have hB1 := Lib.hid (show Below w.heap.size w v1 by rw [hv1]; exact hB0.out)
      rw [← hv1]
      have HTA := Lib.hid TA
      have HRA := Lib.hid RA
      have HC1 := Lib.hid c01
      clear hv1 TA c01 q0 q1 u0 u1 x0' x1' x2' x3' zf0 zf1 hpar
      cases o1 with
      | none =>
        obtain ⟨r0, r1, r2, r3, r4, r5⟩ := HRA.out
        have hR : v1.drew.cell? ⟨Z, 0, none⟩ = some (.pointer none) := r0
        clear r0 r1 r2 r3 r4 r5
        refine wp_region_noPanic ?_
        refine wp_region_held_drew (S := fun w' => w'.cell? ⟨Z, 0, none⟩ = some (.pointer none)) (by kernel_rfl) hR (fun hHeld => ?_)
        refine take_on (i := 0) (some 53) (v := ?v1) rfl rfl (by kernel_rfl) (by kernel_rfl) (by kernel_rfl) (fun _ _ _ h => h) (by rfl) ?hy1 (by assumption) ?rest1
        case hy1 => (intro wS hSw; (try dsimp only at hSw); go_simp; try with_reducible rfl)
        try simp only [Act.put, List.setIfInBounds_toArray, List.set_cons_zero, List.set_cons_succ]
        refine take_on (i := 1) (some 54) (v := ?v2) rfl rfl (by kernel_rfl) (by kernel_rfl) (by kernel_rfl) (fun _ _ _ h => h) (by rfl) ?hy2 (by assumption) ?rest2
        case hy2 => (intro wS hSw; (try dsimp only at hSw); go_simp; try with_reducible rfl)
        try simp only [Act.put, List.setIfInBounds_toArray, List.set_cons_zero, List.set_cons_succ]
        refine take_on (i := 2) (some 55) (v := ?v3) rfl rfl (by kernel_rfl) (by kernel_rfl) (by kernel_rfl) (fun _ _ _ h => h) (by rfl) ?hy3 (by assumption) ?rest3
        case hy3 => (intro wS hSw; (try dsimp only at hSw); go_simp; try with_reducible rfl)
        try simp only [Act.put, List.setIfInBounds_toArray, List.set_cons_zero, List.set_cons_succ]
        refine take_on (i := 3) (some 56) (v := ?v4) rfl rfl (by kernel_rfl) (by kernel_rfl) (by kernel_rfl) (fun _ _ _ h => h) (by rfl) ?hy4 (by assumption) ?rest4
        case hy4 => (intro wS hSw; (try dsimp only at hSw); go_simp; try with_reducible rfl)
        try simp only [Act.put, List.setIfInBounds_toArray, List.set_cons_zero, List.set_cons_succ]
        refine take_off (i := 4) (some 57) rfl rfl (by kernel_rfl) (by kernel_rfl) (by kernel_rfl) (fun _ _ _ h => h) (by rfl) (by assumption) ?_
        try simp only [Act.put, List.setIfInBounds_toArray, List.set_cons_zero, List.set_cons_succ]
        refine take_off (i := 5) (some 58) rfl rfl (by kernel_rfl) (by kernel_rfl) (by kernel_rfl) (fun _ _ _ h => h) (by rfl) (by assumption) ?_
        try simp only [Act.put, List.setIfInBounds_toArray, List.set_cons_zero, List.set_cons_succ]
        refine take_off (i := 6) (some 59) rfl rfl (by kernel_rfl) (by kernel_rfl) (by kernel_rfl) (fun _ _ _ h => h) (by rfl) (by assumption) ?_
        try simp only [Act.put, List.setIfInBounds_toArray, List.set_cons_zero, List.set_cons_succ]
        refine take_off (i := 7) (some 60) rfl rfl (by kernel_rfl) (by kernel_rfl) (by kernel_rfl) (fun _ _ _ h => h) (by rfl) (by assumption) ?_
        try simp only [Act.put, List.setIfInBounds_toArray, List.set_cons_zero, List.set_cons_succ]
        refine take_off (i := 8) (some 61) rfl rfl (by kernel_rfl) (by kernel_rfl) (by kernel_rfl) (fun _ _ _ h => h) (by rfl) (by assumption) ?_
        try simp only [Act.put, List.setIfInBounds_toArray, List.set_cons_zero, List.set_cons_succ]
        refine take_off (i := 9) (some 62) rfl rfl (by kernel_rfl) (by kernel_rfl) (by kernel_rfl) (fun _ _ _ h => h) (by rfl) (by assumption) ?_
        try simp only [Act.put, List.setIfInBounds_toArray, List.set_cons_zero, List.set_cons_succ]
        refine take_off (i := 10) (some 63) rfl rfl (by kernel_rfl) (by kernel_rfl) (by kernel_rfl) (fun _ _ _ h => h) (by rfl) (by assumption) ?_
        try simp only [Act.put, List.setIfInBounds_toArray, List.set_cons_zero, List.set_cons_succ]
        refine take_off (i := 11) (some 64) rfl rfl (by kernel_rfl) (by kernel_rfl) (by kernel_rfl) (fun _ _ _ h => h) (by rfl) (by assumption) ?_
        try simp only [Act.put, List.setIfInBounds_toArray, List.set_cons_zero, List.set_cons_succ]
        refine take_off (i := 12) (some 65) rfl rfl (by kernel_rfl) (by kernel_rfl) (by kernel_rfl) (fun _ _ _ h => h) (by rfl) (by assumption) ?_
        try simp only [Act.put, List.setIfInBounds_toArray, List.set_cons_zero, List.set_cons_succ]
        refine take_off (i := 13) (some 66) rfl rfl (by kernel_rfl) (by kernel_rfl) (by kernel_rfl) (fun _ _ _ h => h) (by rfl) (by assumption) ?_
        try simp only [Act.put, List.setIfInBounds_toArray, List.set_cons_zero, List.set_cons_succ]
        refine take_off (i := 14) (some 67) rfl rfl (by kernel_rfl) (by kernel_rfl) (by kernel_rfl) (fun _ _ _ h => h) (by rfl) (by assumption) ?_
        try simp only [Act.put, List.setIfInBounds_toArray, List.set_cons_zero, List.set_cons_succ]
        refine take_off (i := 15) (some 68) rfl rfl (by kernel_rfl) (by kernel_rfl) (by kernel_rfl) (fun _ _ _ h => h) (by rfl) (by assumption) ?_
        try simp only [Act.put, List.setIfInBounds_toArray, List.set_cons_zero, List.set_cons_succ]
        refine take_off (i := 16) (some 69) rfl rfl (by kernel_rfl) (by kernel_rfl) (by kernel_rfl) (fun _ _ _ h => h) (by rfl) (by assumption) ?_
        try simp only [Act.put, List.setIfInBounds_toArray, List.set_cons_zero, List.set_cons_succ]
        refine take_off (i := 17) (some 70) rfl rfl (by kernel_rfl) (by kernel_rfl) (by kernel_rfl) (fun _ _ _ h => h) (by rfl) (by assumption) ?_
        try simp only [Act.put, List.setIfInBounds_toArray, List.set_cons_zero, List.set_cons_succ]
        refine take_off (i := 18) (some 71) rfl rfl (by kernel_rfl) (by kernel_rfl) (by kernel_rfl) (fun _ _ _ h => h) (by rfl) (by assumption) ?_
        try simp only [Act.put, List.setIfInBounds_toArray, List.set_cons_zero, List.set_cons_succ]
        refine take_off (i := 19) (some 72) rfl rfl (by kernel_rfl) (by kernel_rfl) (by kernel_rfl) (fun _ _ _ h => h) (by rfl) (by assumption) ?_
        try simp only [Act.put, List.setIfInBounds_toArray, List.set_cons_zero, List.set_cons_succ]
        refine take_off (i := 20) (some 73) rfl rfl (by kernel_rfl) (by kernel_rfl) (by kernel_rfl) (fun _ _ _ h => h) (by rfl) (by assumption) ?_
        try simp only [Act.put, List.setIfInBounds_toArray, List.set_cons_zero, List.set_cons_succ]
        refine take_off (i := 21) (some 74) rfl rfl (by kernel_rfl) (by kernel_rfl) (by kernel_rfl) (fun _ _ _ h => h) (by rfl) (by assumption) ?_
        try simp only [Act.put, List.setIfInBounds_toArray, List.set_cons_zero, List.set_cons_succ]
        refine take_on (i := 22) (some 75) (v := ?v5) rfl rfl (by kernel_rfl) (by kernel_rfl) (by kernel_rfl) (fun _ _ _ h => h) (by rfl) ?hy5 (by assumption) ?rest5
        case hy5 => (intro wS hSw; (try dsimp only at hSw); go_simp; try with_reducible rfl)
        try simp only [Act.put, List.setIfInBounds_toArray, List.set_cons_zero, List.set_cons_succ]
        refine wpAnyH_done (by kernel_rfl) ?_ _
        refine NoPanic.normal ?_
        all_goals
          have T4 := Lib.hid ((HTA.out.below (Below.refl v1.heap.size v1).drew).later (show 3 * k ≤ 3 * k + 3 by omega))
          have C4 := Lib.hid (HC1.out.drew)
          have HH := Lib.hid T4.out.holds
          go_wp2_with (first | (go_at_call 30; (with_reducible refine HH.out.mono ?_); rintro e w5 ⟨rfl, b5⟩))
          have FI := FIN.out w5 (T4.out.below b5) (C4.out.trans (Chg.of_below _ b5) fun _ _ _ h => h)
          obtain ⟨F1, F2, F3, F4⟩ := FI
          clear b5
          go_roundw
          case rel => exact ⟨k + 1, by omega, by go_num, F1, F2, F3, F4⟩
          case measure => simp [intOf]; omega
      | some gr =>
        obtain ⟨G, R⟩ := gr
        obtain ⟨r0, r1, r2, r3, r4, r5⟩ := HRA.out
        have T0 : v1.drew.cell? ⟨Z, 0, none⟩ = some (.pointer (some ⟨G, 0, none⟩)) ∧ v1.drew.cell? ⟨Z, 1, none⟩ = some (.pointer (some ⟨R, 0, none⟩)) ∧ v1.drew.cell? ⟨sb, so + k * 4, none⟩ = some (.int .i64 kd) ∧ v1.drew.cell? ⟨sb, so + k * 4 + 1, none⟩ = some (.int .i64 of_) ∧ v1.drew.cell? ⟨sb, so + k * 4 + 2, none⟩ = some (.int .i64 a) ∧ v1.drew.cell? ⟨sb, so + k * 4 + 3, none⟩ = some (.int .i64 b) := ⟨r0, r1, r2, r3, r4, r5⟩
        have KZ := Lib.hid (show ∀ v, Chg (fun j i => (w.heap.size ≤ j ∧ j ≠ X ∧ j ≠ Y) ∧ j ≠ Z) v1.drew v → v.cell? ⟨Z, 0, none⟩ = some (.pointer (some ⟨G, 0, none⟩)) ∧ v.cell? ⟨Z, 1, none⟩ = some (.pointer (some ⟨R, 0, none⟩)) ∧ v.cell? ⟨sb, so + k * 4, none⟩ = some (.int .i64 kd) ∧ v.cell? ⟨sb, so + k * 4 + 1, none⟩ = some (.int .i64 of_) ∧ v.cell? ⟨sb, so + k * 4 + 2, none⟩ = some (.int .i64 a) ∧ v.cell? ⟨sb, so + k * 4 + 3, none⟩ = some (.int .i64 b) from fun v hv =>
          ⟨hv.cell (fun h => h.2 rfl) T0.1, hv.cell (fun h => h.2 rfl) T0.2.1, hv.cell (fun h => by have := h.1.1; omega) T0.2.2.1, hv.cell (fun h => by have := h.1.1; omega) T0.2.2.2.1, hv.cell (fun h => by have := h.1.1; omega) T0.2.2.2.2.1, hv.cell (fun h => by have := h.1.1; omega) T0.2.2.2.2.2⟩)
        have MV := Lib.hid ((HTA.out.below (Below.refl v1.heap.size v1).drew).asks kd of_ a b (show 3 * k ≤ 8388608 by have := HKb.out; omega))
        have MWF := Lib.hid (fun (w3 : World) (p3 : T2E (fun j i => (w.heap.size ≤ j ∧ j ≠ X ∧ j ≠ Y) ∧ j ≠ Z) w3 (some (G, R)) o2 (Y + 1) (3 * k + 2)) => p3.moves true kd of_ a b HKb.out HWA.out)
        clear r0 r1 r2 r3 r4 r5
        go_region_held3 (fun w' => w'.cell? ⟨Z, 0, none⟩ = some (.pointer (some ⟨G, 0, none⟩)) ∧ w'.cell? ⟨Z, 1, none⟩ = some (.pointer (some ⟨R, 0, none⟩)) ∧ w'.cell? ⟨sb, so + k * 4, none⟩ = some (.int .i64 kd) ∧ w'.cell? ⟨sb, so + k * 4 + 1, none⟩ = some (.int .i64 of_) ∧ w'.cell? ⟨sb, so + k * 4 + 2, none⟩ = some (.int .i64 a) ∧ w'.cell? ⟨sb, so + k * 4 + 3, none⟩ = some (.int .i64 b)) (first | exact T0 | exact KZ.out _ hC4.out | exact KZ.out _ hC3.out) (first
          | (go_at_call 29; (with_reducible refine MV.out.mono ?_); rintro e w3 ⟨rfl, p3, c3⟩; have hC3 := Lib.hid c3; have MW := Lib.hid (MWF.out _ p3); clear c3 p3)
          | (go_at_call 22; (with_reducible refine MW.out.mono ?_); rintro e w4 ⟨rfl, p4, c4⟩; have hC4 := Lib.hid (hC3.out.trans c4 fun _ _ _ h => h); have T4 := Lib.hid p4; clear c4 p4))
        all_goals
          have C4 := Lib.hid (HC1.out.drew.trans (hC4.out.mono (F' := fun j i => w.heap.size ≤ j ∧ j ≠ X ∧ j ≠ Y) fun j i _ hq => hq.1) fun _ _ _ h => h)
          have HH := Lib.hid T4.out.holds
          go_wp2_with (first | (go_at_call 30; (with_reducible refine HH.out.mono ?_); rintro e w5 ⟨rfl, b5⟩))
          have FI := FIN.out w5 (T4.out.below b5) (C4.out.trans (Chg.of_below _ b5) fun _ _ _ h => h)
          obtain ⟨F1, F2, F3, F4⟩ := FI
          clear b5 T0
          go_roundw
          case rel => exact ⟨k + 1, by omega, by go_num, F1, F2, F3, F4⟩
          case measure => simp [intOf]; omega
    | true =>
      go_upto_region 12 with fail
      obtain ⟨v1, hv1⟩ : ∃ W, W = (v0.setCell ⟨Z, 0, none⟩ (pL o2)).setCell ⟨Z, 1, none⟩ (pR o2) := ⟨_, rfl⟩
      rw [← hv1]
      have c01' : Chg (fun j _ => j = Z) v0 v1 := by rw [hv1]; exact (Chg.setCell (fun j _ => j = Z) v0 (g := Z) (i := 0) rfl _).trans (Chg.setCell (fun j _ => j = Z) _ (g := Z) (i := 1) rfl _) fun _ _ _ h => h
      have zb1 : Blk v1 Z 48 #[pL o2, pR o2] := by rw [hv1]; exact (HZB.out.set_ 0 _).set_ 1 _
      have TA := (HTT.out.other c01' fun j i e hq => hq.2 e).swap
      have RA : Row6 v1 Z sb (so + k * 4) (pL o2) (pR o2) kd of_ a b := by
        obtain ⟨_, _, r2, r3, r4, r5⟩ := R0.out
        have hs : ∀ i : Nat, ¬ (fun (j : Nat) (_ : Nat) => j = Z) sb i := fun i e => by have e : sb = Z := e; omega
        exact ⟨zb1.cell 0, zb1.cell 1, c01'.cell (hs (so + k * 4)) r2, c01'.cell (hs (so + k * 4 + 1)) r3, c01'.cell (hs (so + k * 4 + 2)) r4, c01'.cell (hs (so + k * 4 + 3)) r5⟩
      have c01 : Chg (fun j i => w.heap.size ≤ j ∧ j ≠ X ∧ j ≠ Y) v0 v1 := c01'.mono fun j i _ e => ⟨by omega, by omega, by omega⟩
      have hB1 := Lib.hid (show Below w.heap.size w v1 from hB0.out.trans (c01'.below hB0.out.size fun j i hj e => by omega))
      have HTA := Lib.hid TA
      have HRA := Lib.hid RA
      have HC1 := Lib.hid c01
      clear hv1 TA c01 q0 q1 u0 u1 x0' x1' x2' x3' zf0 zf1 hpar c01' zb1
      cases o2 with
      | none =>
        obtain ⟨r0, r1, r2, r3, r4, r5⟩ := HRA.out
        have hR : v1.drew.cell? ⟨Z, 0, none⟩ = some (.pointer none) := r0
        clear r0 r1 r2 r3 r4 r5
        refine wp_region_noPanic ?_
        refine wp_region_held_drew (S := fun w' => w'.cell? ⟨Z, 0, none⟩ = some (.pointer none)) (by kernel_rfl) hR (fun hHeld => ?_)
        refine take_on (i := 0) (some 53) (v := ?v6) rfl rfl (by kernel_rfl) (by kernel_rfl) (by kernel_rfl) (fun _ _ _ h => h) (by rfl) ?hy6 (by assumption) ?rest6
        case hy6 => (intro wS hSw; (try dsimp only at hSw); go_simp; try with_reducible rfl)
        try simp only [Act.put, List.setIfInBounds_toArray, List.set_cons_zero, List.set_cons_succ]
        refine take_on (i := 1) (some 54) (v := ?v7) rfl rfl (by kernel_rfl) (by kernel_rfl) (by kernel_rfl) (fun _ _ _ h => h) (by rfl) ?hy7 (by assumption) ?rest7
        case hy7 => (intro wS hSw; (try dsimp only at hSw); go_simp; try with_reducible rfl)
        try simp only [Act.put, List.setIfInBounds_toArray, List.set_cons_zero, List.set_cons_succ]
        refine take_on (i := 2) (some 55) (v := ?v8) rfl rfl (by kernel_rfl) (by kernel_rfl) (by kernel_rfl) (fun _ _ _ h => h) (by rfl) ?hy8 (by assumption) ?rest8
        case hy8 => (intro wS hSw; (try dsimp only at hSw); go_simp; try with_reducible rfl)
        try simp only [Act.put, List.setIfInBounds_toArray, List.set_cons_zero, List.set_cons_succ]
        refine take_on (i := 3) (some 56) (v := ?v9) rfl rfl (by kernel_rfl) (by kernel_rfl) (by kernel_rfl) (fun _ _ _ h => h) (by rfl) ?hy9 (by assumption) ?rest9
        case hy9 => (intro wS hSw; (try dsimp only at hSw); go_simp; try with_reducible rfl)
        try simp only [Act.put, List.setIfInBounds_toArray, List.set_cons_zero, List.set_cons_succ]
        refine take_off (i := 4) (some 57) rfl rfl (by kernel_rfl) (by kernel_rfl) (by kernel_rfl) (fun _ _ _ h => h) (by rfl) (by assumption) ?_
        try simp only [Act.put, List.setIfInBounds_toArray, List.set_cons_zero, List.set_cons_succ]
        refine take_off (i := 5) (some 58) rfl rfl (by kernel_rfl) (by kernel_rfl) (by kernel_rfl) (fun _ _ _ h => h) (by rfl) (by assumption) ?_
        try simp only [Act.put, List.setIfInBounds_toArray, List.set_cons_zero, List.set_cons_succ]
        refine take_off (i := 6) (some 59) rfl rfl (by kernel_rfl) (by kernel_rfl) (by kernel_rfl) (fun _ _ _ h => h) (by rfl) (by assumption) ?_
        try simp only [Act.put, List.setIfInBounds_toArray, List.set_cons_zero, List.set_cons_succ]
        refine take_off (i := 7) (some 60) rfl rfl (by kernel_rfl) (by kernel_rfl) (by kernel_rfl) (fun _ _ _ h => h) (by rfl) (by assumption) ?_
        try simp only [Act.put, List.setIfInBounds_toArray, List.set_cons_zero, List.set_cons_succ]
        refine take_off (i := 8) (some 61) rfl rfl (by kernel_rfl) (by kernel_rfl) (by kernel_rfl) (fun _ _ _ h => h) (by rfl) (by assumption) ?_
        try simp only [Act.put, List.setIfInBounds_toArray, List.set_cons_zero, List.set_cons_succ]
        refine take_off (i := 9) (some 62) rfl rfl (by kernel_rfl) (by kernel_rfl) (by kernel_rfl) (fun _ _ _ h => h) (by rfl) (by assumption) ?_
        try simp only [Act.put, List.setIfInBounds_toArray, List.set_cons_zero, List.set_cons_succ]
        refine take_off (i := 10) (some 63) rfl rfl (by kernel_rfl) (by kernel_rfl) (by kernel_rfl) (fun _ _ _ h => h) (by rfl) (by assumption) ?_
        try simp only [Act.put, List.setIfInBounds_toArray, List.set_cons_zero, List.set_cons_succ]
        refine take_off (i := 11) (some 64) rfl rfl (by kernel_rfl) (by kernel_rfl) (by kernel_rfl) (fun _ _ _ h => h) (by rfl) (by assumption) ?_
        try simp only [Act.put, List.setIfInBounds_toArray, List.set_cons_zero, List.set_cons_succ]
        refine take_off (i := 12) (some 65) rfl rfl (by kernel_rfl) (by kernel_rfl) (by kernel_rfl) (fun _ _ _ h => h) (by rfl) (by assumption) ?_
        try simp only [Act.put, List.setIfInBounds_toArray, List.set_cons_zero, List.set_cons_succ]
        refine take_off (i := 13) (some 66) rfl rfl (by kernel_rfl) (by kernel_rfl) (by kernel_rfl) (fun _ _ _ h => h) (by rfl) (by assumption) ?_
        try simp only [Act.put, List.setIfInBounds_toArray, List.set_cons_zero, List.set_cons_succ]
        refine take_off (i := 14) (some 67) rfl rfl (by kernel_rfl) (by kernel_rfl) (by kernel_rfl) (fun _ _ _ h => h) (by rfl) (by assumption) ?_
        try simp only [Act.put, List.setIfInBounds_toArray, List.set_cons_zero, List.set_cons_succ]
        refine take_off (i := 15) (some 68) rfl rfl (by kernel_rfl) (by kernel_rfl) (by kernel_rfl) (fun _ _ _ h => h) (by rfl) (by assumption) ?_
        try simp only [Act.put, List.setIfInBounds_toArray, List.set_cons_zero, List.set_cons_succ]
        refine take_off (i := 16) (some 69) rfl rfl (by kernel_rfl) (by kernel_rfl) (by kernel_rfl) (fun _ _ _ h => h) (by rfl) (by assumption) ?_
        try simp only [Act.put, List.setIfInBounds_toArray, List.set_cons_zero, List.set_cons_succ]
        refine take_off (i := 17) (some 70) rfl rfl (by kernel_rfl) (by kernel_rfl) (by kernel_rfl) (fun _ _ _ h => h) (by rfl) (by assumption) ?_
        try simp only [Act.put, List.setIfInBounds_toArray, List.set_cons_zero, List.set_cons_succ]
        refine take_off (i := 18) (some 71) rfl rfl (by kernel_rfl) (by kernel_rfl) (by kernel_rfl) (fun _ _ _ h => h) (by rfl) (by assumption) ?_
        try simp only [Act.put, List.setIfInBounds_toArray, List.set_cons_zero, List.set_cons_succ]
        refine take_off (i := 19) (some 72) rfl rfl (by kernel_rfl) (by kernel_rfl) (by kernel_rfl) (fun _ _ _ h => h) (by rfl) (by assumption) ?_
        try simp only [Act.put, List.setIfInBounds_toArray, List.set_cons_zero, List.set_cons_succ]
        refine take_off (i := 20) (some 73) rfl rfl (by kernel_rfl) (by kernel_rfl) (by kernel_rfl) (fun _ _ _ h => h) (by rfl) (by assumption) ?_
        try simp only [Act.put, List.setIfInBounds_toArray, List.set_cons_zero, List.set_cons_succ]
        refine take_off (i := 21) (some 74) rfl rfl (by kernel_rfl) (by kernel_rfl) (by kernel_rfl) (fun _ _ _ h => h) (by rfl) (by assumption) ?_
        try simp only [Act.put, List.setIfInBounds_toArray, List.set_cons_zero, List.set_cons_succ]
        refine take_on (i := 22) (some 75) (v := ?v10) rfl rfl (by kernel_rfl) (by kernel_rfl) (by kernel_rfl) (fun _ _ _ h => h) (by rfl) ?hy10 (by assumption) ?rest10
        case hy10 => (intro wS hSw; (try dsimp only at hSw); go_simp; try with_reducible rfl)
        try simp only [Act.put, List.setIfInBounds_toArray, List.set_cons_zero, List.set_cons_succ]
        refine wpAnyH_done (by kernel_rfl) ?_ _
        refine NoPanic.normal ?_
        all_goals
          have T4 := Lib.hid ((HTA.out.below (Below.refl v1.heap.size v1).drew).later (show 3 * k ≤ 3 * k + 3 by omega))
          have C4 := Lib.hid (HC1.out.drew)
          have HH := Lib.hid T4.out.holds
          go_wp2_with (first | (go_at_call 30; (with_reducible refine HH.out.mono ?_); rintro e w5 ⟨rfl, b5⟩))
          have FI := FIN.out w5 ((T4.out.below b5).swap) (C4.out.trans (Chg.of_below _ b5) fun _ _ _ h => h)
          obtain ⟨F1, F2, F3, F4⟩ := FI
          clear b5
          go_roundw
          case rel => exact ⟨k + 1, by omega, by go_num, F1, F2, F3, F4⟩
          case measure => simp [intOf]; omega
      | some gr =>
        obtain ⟨G, R⟩ := gr
        obtain ⟨r0, r1, r2, r3, r4, r5⟩ := HRA.out
        have T0 : v1.drew.cell? ⟨Z, 0, none⟩ = some (.pointer (some ⟨G, 0, none⟩)) ∧ v1.drew.cell? ⟨Z, 1, none⟩ = some (.pointer (some ⟨R, 0, none⟩)) ∧ v1.drew.cell? ⟨sb, so + k * 4, none⟩ = some (.int .i64 kd) ∧ v1.drew.cell? ⟨sb, so + k * 4 + 1, none⟩ = some (.int .i64 of_) ∧ v1.drew.cell? ⟨sb, so + k * 4 + 2, none⟩ = some (.int .i64 a) ∧ v1.drew.cell? ⟨sb, so + k * 4 + 3, none⟩ = some (.int .i64 b) := ⟨r0, r1, r2, r3, r4, r5⟩
        have KZ := Lib.hid (show ∀ v, Chg (fun j i => (w.heap.size ≤ j ∧ j ≠ X ∧ j ≠ Y) ∧ j ≠ Z) v1.drew v → v.cell? ⟨Z, 0, none⟩ = some (.pointer (some ⟨G, 0, none⟩)) ∧ v.cell? ⟨Z, 1, none⟩ = some (.pointer (some ⟨R, 0, none⟩)) ∧ v.cell? ⟨sb, so + k * 4, none⟩ = some (.int .i64 kd) ∧ v.cell? ⟨sb, so + k * 4 + 1, none⟩ = some (.int .i64 of_) ∧ v.cell? ⟨sb, so + k * 4 + 2, none⟩ = some (.int .i64 a) ∧ v.cell? ⟨sb, so + k * 4 + 3, none⟩ = some (.int .i64 b) from fun v hv =>
          ⟨hv.cell (fun h => h.2 rfl) T0.1, hv.cell (fun h => h.2 rfl) T0.2.1, hv.cell (fun h => by have := h.1.1; omega) T0.2.2.1, hv.cell (fun h => by have := h.1.1; omega) T0.2.2.2.1, hv.cell (fun h => by have := h.1.1; omega) T0.2.2.2.2.1, hv.cell (fun h => by have := h.1.1; omega) T0.2.2.2.2.2⟩)
        have MV := Lib.hid ((HTA.out.below (Below.refl v1.heap.size v1).drew).asks kd of_ a b (show 3 * k ≤ 8388608 by have := HKb.out; omega))
        have MWF := Lib.hid (fun (w3 : World) (p3 : T2E (fun j i => (w.heap.size ≤ j ∧ j ≠ X ∧ j ≠ Y) ∧ j ≠ Z) w3 (some (G, R)) o1 (Y + 1) (3 * k + 2)) => p3.moves true kd of_ a b HKb.out HWA.out)
        clear r0 r1 r2 r3 r4 r5
        go_region_held3 (fun w' => w'.cell? ⟨Z, 0, none⟩ = some (.pointer (some ⟨G, 0, none⟩)) ∧ w'.cell? ⟨Z, 1, none⟩ = some (.pointer (some ⟨R, 0, none⟩)) ∧ w'.cell? ⟨sb, so + k * 4, none⟩ = some (.int .i64 kd) ∧ w'.cell? ⟨sb, so + k * 4 + 1, none⟩ = some (.int .i64 of_) ∧ w'.cell? ⟨sb, so + k * 4 + 2, none⟩ = some (.int .i64 a) ∧ w'.cell? ⟨sb, so + k * 4 + 3, none⟩ = some (.int .i64 b)) (first | exact T0 | exact KZ.out _ hC4.out | exact KZ.out _ hC3.out) (first
          | (go_at_call 29; (with_reducible refine MV.out.mono ?_); rintro e w3 ⟨rfl, p3, c3⟩; have hC3 := Lib.hid c3; have MW := Lib.hid (MWF.out _ p3); clear c3 p3)
          | (go_at_call 22; (with_reducible refine MW.out.mono ?_); rintro e w4 ⟨rfl, p4, c4⟩; have hC4 := Lib.hid (hC3.out.trans c4 fun _ _ _ h => h); have T4 := Lib.hid p4; clear c4 p4))
        all_goals
          have C4 := Lib.hid (HC1.out.drew.trans (hC4.out.mono (F' := fun j i => w.heap.size ≤ j ∧ j ≠ X ∧ j ≠ Y) fun j i _ hq => hq.1) fun _ _ _ h => h)
          have HH := Lib.hid T4.out.holds
          go_wp2_with (first | (go_at_call 30; (with_reducible refine HH.out.mono ?_); rintro e w5 ⟨rfl, b5⟩))
          have FI := FIN.out w5 ((T4.out.below b5).swap) (C4.out.trans (Chg.of_below _ b5) fun _ _ _ h => h)
          obtain ⟨F1, F2, F3, F4⟩ := FI
          clear b5 T0
          go_roundw
          case rel => exact ⟨k + 1, by omega, by go_num, F1, F2, F3, F4⟩
          case measure => simp [intOf]; omega
end
end Go.Proofs.Ytagkhhoimgighaa
