/- TlogMoves: the law. -/
import Derived.Test.YtagkhhoimgighaaTlMd
namespace Go.Proofs.Ytagkhhoimgighaa
open Go.RowKit
set_option linter.unusedVariables false
set_option linter.unusedSimpArgs false
section
variable {Q : Nat → Nat → Prop} {w w' : World} {G R B k : Nat} {s : LogS} {r : RefT} {F : Nat → Nat → Prop} {FR : Nat → Prop} {FB : Nat → Nat → Prop} {fn kn : Nat} {mk : Int}
theorem moves_any (tl : Bool) (kd of_ a b : Int) (h : PS Q w G R B k s r F FR FB fn kn mk) (hk : k ≤ 8388608) (hwa : (Lit.int .i64 a).wf = true) :
    Calls Try.prog 22 #[.agg #[.pointer (some ⟨G, 0, none⟩), .pointer (some ⟨R, 0, none⟩)], .agg #[.int .i64 kd, .int .i64 of_, .int .i64 a, .int .i64 b], .bool tl, .pointer (some ⟨B, 0, none⟩)] w (MvP Q w G R B k) := by
  by_cases h0 : kd = 0
  · subst h0; exact moves_add tl of_ a b h hk hwa
  by_cases h1 : kd = 1
  · subst h1; exact moves_close tl of_ a b h hk
  by_cases h2 : kd = 2
  · subst h2; exact moves_ack tl of_ a b h hk hwa
  by_cases h3 : kd = 3
  · subst h3; exact moves_bar tl of_ a b h hk
  by_cases h4 : kd = 4
  · subst h4; exact moves_fail tl of_ a b h hk
  by_cases h10 : kd = 10
  · subst h10; exact moves_next tl of_ a b h hk
  exact moves_other tl kd of_ a b h hk h0 h1 h2 h3 h4 h10
end
section
variable {limit width : Int} {A0 : Option Addr} {c0 : Nat} {l : List (Int × Int × Int × Int)} {w : World}
set_option maxRecDepth 20000 in
set_option maxHeartbeats 8000000 in
theorem tm_no (h : ¬ goodB limit width) : Calls Try.prog 5 #[.int .i64 limit, .int .i64 width, .slice A0 l.length c0] w fun e w' => e = .returned (.bool true) ∧ Below w.heap.size w w' := by
  have H := Lib.hid (makes_no limit width w h)
  clear h
  go_enter Try.func5, Try.ntmps5
  go_wp2_with fail
  refine H.out.mono ?_
  rintro e w1 ⟨rfl, B1⟩
  have HB := Lib.hid B1
  clear B1
  go_upto_region 5 with fail
  obtain ⟨w2, hw2⟩ : ∃ W, W = (w1.alloc (.cells #[.pointer none, .pointer none] 48)).alloc (.cells #[.slice none 0 0, .slice none 0 0, .slice none 0 0, .slice none 0 0, .int .i64 0] 54) := ⟨_, rfl⟩
  rw [← hw2]
  have B2 := Lib.hid (show Below w.heap.size w w2 by rw [hw2]; exact (HB.out.alloc HB.out.size _).alloc (by have := HB.out.size; simp; omega) _)
  have X0 : w2.cell? ⟨w1.heap.size, 0, none⟩ = some (.pointer none) := by rw [hw2]; exact ((Blk.new w1 48 #[.pointer none, .pointer none]).alloc _).cell 0
  clear hw2
  go_wp2_with fail
  go_loopw [10] (fun t10 wr => t10 = .int .i64 0 ∧ wr = w2) (fun _ _ => 1)
  case atStart => exact ⟨rfl, rfl⟩
  case round =>
    obtain ⟨rfl, rfl⟩ := hrel
    by_cases hl : (0 : Int) < l.length
    · go_wp2
      go_ret
      exact ⟨rfl, B2.out⟩
    · go_wp2
      go_ret
      exact ⟨rfl, B2.out⟩
set_option maxRecDepth 20000 in
set_option maxHeartbeats 8000000 in
theorem tm_yes (hg : goodB limit width) (hl : l.length ≤ 1048576) (hs : RdS encO4 4 w A0 l) (hwf : ∀ x ∈ l, (Lit.int .i64 x.2.2.1).wf = true) : Calls Try.prog 5 #[.int .i64 limit, .int .i64 width, .slice A0 l.length c0] w fun e w' => e = .returned (.bool true) ∧ Below w.heap.size w w' := by
  have H := Lib.hid (makes_yes limit width w hg)
  have Hg := Lib.hid hg
  have Hwf := Lib.hid hwf
  have Hs := Lib.hid hs
  clear hg hwf hs
  go_enter Try.func5, Try.ntmps5
  go_wp2_with fail
  refine H.out.mono ?_
  rintro e w1 ⟨G, R, F, FR, rfl, L1, R1, B1, f1, f2, f3⟩
  have HL := Lib.hid L1
  have HR := Lib.hid R1
  have HB := Lib.hid B1
  have HF1 := Lib.hid f1
  have HF2 := Lib.hid f2
  have HF3 := Lib.hid f3
  clear L1 R1 B1 f1 f2 f3 H
  go_upto_region 5 with fail
  obtain ⟨w2, hw2⟩ : ∃ W, W = (w1.alloc (.cells #[.pointer (some ⟨G, 0, none⟩), .pointer (some ⟨R, 0, none⟩)] 48)).alloc (.cells #[.slice none 0 0, .slice none 0 0, .slice none 0 0, .slice none 0 0, .int .i64 0] 54) := ⟨_, rfl⟩
  rw [← hw2]
  obtain ⟨Z, hZ⟩ : ∃ Z, Z = w1.heap.size := ⟨_, rfl⟩
  rw [← hZ]
  have b12 : Below w1.heap.size w1 w2 := by rw [hw2]; exact ((Below.refl _ w1).alloc (Nat.le_refl _) _).alloc (by simp) _
  have BK : Blk w2 (Z + 1) 54 #[.slice none 0 0, .slice none 0 0, .slice none 0 0, .slice none 0 0, .int .i64 0] := by
    rw [hw2, hZ]
    have := Blk.new (w1.alloc (.cells #[.pointer (some ⟨G, 0, none⟩), .pointer (some ⟨R, 0, none⟩)] 48)) 54 #[.slice none 0 0, .slice none 0 0, .slice none 0 0, .slice none 0 0, .int .i64 0]
    rw [World.size_alloc] at this
    exact this
  have ZB : Blk w2 Z 48 #[.pointer (some ⟨G, 0, none⟩), .pointer (some ⟨R, 0, none⟩)] := by rw [hw2, hZ]; exact (Blk.new w1 _ _).alloc _
  have hBR : BkR w2 (Z + 1) 0 (fun _ => RV.nil_) := ⟨BK, fun _ => GSl.nil_, fun _ => .inl rfl, (fun _ _ _ k hk => by obtain ⟨_, e, _⟩ := hk; cases e), (fun _ p hp => by cases hp), (fun p hp => by cases hp), (fun p hp => by cases hp), List.Pairwise.nil⟩
  have hfb : ∀ k i, BkF (fun _ => RV.nil_) (Z + 1) k i → k = Z + 1 := fun k i hk => by
    rcases hk with e | ⟨_, _, e, _⟩ | ⟨_, p, hp, _⟩
    · exact e
    · cases e
    · cases hp
  have hws := HB.out.size
  have P0 : PS (fun k _ => w.heap.size ≤ k ∧ k ≠ Z) w2 G R (Z + 1) 0 (newS limit width) ⟨[], 1, limit, width⟩ F FR (BkF (fun _ => RV.nil_) (Z + 1)) 0 0 0 := by
    have s12 := b12.size
    have sz := ZB.lt
    have lF : ∀ k i, F k i → k < Z := fun k i hk => by have := HL.out.fp_lt hk; omega
    have lR : ∀ k, FR k → k < Z := fun k hk => by have := HR.out.lt hk; omega
    refine ⟨⟨fun k hk i => ⟨by omega, by omega⟩, HL.out.chg (Chg.of_below (fun _ _ => False) b12) (fun _ _ _ h => h), HR.out.below b12, ⟨_, hBR, rfl, rfl, rfl, rfl, (fun p hp => by cases hp), fun _ _ => Iff.rfl⟩, HF3.out, fun k i hk hb => ?_, fun k i hb hr => ?_, fun k i hk => ?_, fun k hk i => ?_, fun k i hk => ?_⟩, Sim.made limit width, Hg.out, ?_, Nat.le_refl _, ?_, ?_, by omega, Nat.le_refl _, Int.le_refl _, by omega⟩
    · have := lF k i hk; have := hfb k i hb; omega
    · have := lR k hr; have := hfb k i hb; omega
    · have := lF k i hk; exact ⟨HF1.out k i hk, by omega⟩
    · have := lR k hk; exact ⟨HF2.out k hk, by omega⟩
    · have := hfb k i hk; exact ⟨by omega, by omega⟩
    · show (0 : Int) ≤ limit; have := Hg.out.1; omega
    · show (1 : Int) ≤ _; omega
    · show (0 : Int) ≤ width; have := Hg.out.2.2.1; omega
  have HP0 := Lib.hid P0
  have HZB := Lib.hid ZB
  have c12 := Lib.hid (show Chg (fun k _ => w.heap.size ≤ k ∧ k ≠ Z) w w2 from (Chg.of_below _ HB.out).trans (Chg.of_below (fun k _ => w.heap.size ≤ k ∧ k ≠ Z) b12) fun _ _ _ h => h)
  have hwZ : w.heap.size ≤ Z := by omega
  clear hw2 hZ b12 BK ZB hBR hfb P0 hws
  go_wp2_with fail
  go_loopw [10] (fun t10 wr => ∃ (k : Nat) (s : LogS) (r : RefT) (F : Nat → Nat → Prop) (FR : Nat → Prop) (FB : Nat → Nat → Prop) (fn kn : Nat) (mk : Int), k ≤ l.length ∧ t10 = .int .i64 k ∧ Hid (PS (fun k _ => w.heap.size ≤ k ∧ k ≠ Z) wr G R (Z + 1) k s r F FR FB fn kn mk) ∧ Hid (Chg (fun k _ => w.heap.size ≤ k ∧ k ≠ Z) w wr) ∧ Hid (Blk wr Z 48 #[.pointer (some ⟨G, 0, none⟩), .pointer (some ⟨R, 0, none⟩)])) (fun t10 _ => l.length - (intOf t10).toNat)
  case atStart => exact ⟨0, _, _, _, _, _, _, _, _, Nat.zero_le _, rfl, HP0, c12, HZB⟩
  case round =>
    obtain ⟨k, s, r, F, FR, FB, fn, kn, mk, hk, rfl, hP, hC, hZ⟩ := hrel
    clear HP0 c12 HZB HL HR HB HF1 HF2 HF3
    have hB := Lib.hid (show Below w.heap.size w wr from hC.out.below (Nat.le_refl _) fun k i hk e => by omega)
    have z0 : wr.cell? ⟨Z, 0, none⟩ = some (.pointer (some ⟨G, 0, none⟩)) := hZ.out.cell 0
    have z1 : wr.cell? ⟨Z, 1, none⟩ = some (.pointer (some ⟨R, 0, none⟩)) := hZ.out.cell 1
    by_cases hkl : k < l.length
    case neg =>
      obtain rfl : k = l.length := by omega
      go_wp2
      go_ret
      exact ⟨rfl, hB.out⟩
    have hkl' : (k : Int) < (l.length : Int) := by omega
    obtain ⟨sb, so, ⟨kd, of_, a, b⟩, hA0, hsb, hx, hc⟩ := Hs.out.at_ hkl
    subst hA0
    have x0 : wr.cell? ⟨sb, so + k * 4, none⟩ = some (.int .i64 kd) := (hB.out.cell (p := ⟨sb, so + k * 4, none⟩) hsb).trans (hc 0 _ rfl)
    have x1 : wr.cell? ⟨sb, so + k * 4 + 1, none⟩ = some (.int .i64 of_) := (hB.out.cell (p := ⟨sb, so + k * 4 + 1, none⟩) hsb).trans (hc 1 _ rfl)
    have x2 : wr.cell? ⟨sb, so + k * 4 + 2, none⟩ = some (.int .i64 a) := (hB.out.cell (p := ⟨sb, so + k * 4 + 2, none⟩) hsb).trans (hc 2 _ rfl)
    have x3 : wr.cell? ⟨sb, so + k * 4 + 3, none⟩ = some (.int .i64 b) := (hB.out.cell (p := ⟨sb, so + k * 4 + 3, none⟩) hsb).trans (hc 3 _ rfl)
    have ha := Hwf.out _ (List.mem_of_getElem? hx)
    have MV := Lib.hid (moves_any true kd of_ a b (hP.out.ms' (hP.out.ms.below (Below.refl wr.heap.size wr).drew)) (by omega) ha)
    have T0 : wr.drew.cell? ⟨Z, 0, none⟩ = some (.pointer (some ⟨G, 0, none⟩)) ∧ wr.drew.cell? ⟨Z, 1, none⟩ = some (.pointer (some ⟨R, 0, none⟩)) ∧ wr.drew.cell? ⟨sb, so + k * 4, none⟩ = some (.int .i64 kd) ∧ wr.drew.cell? ⟨sb, so + k * 4 + 1, none⟩ = some (.int .i64 of_) ∧ wr.drew.cell? ⟨sb, so + k * 4 + 2, none⟩ = some (.int .i64 a) ∧ wr.drew.cell? ⟨sb, so + k * 4 + 3, none⟩ = some (.int .i64 b) := ⟨z0, z1, x0, x1, x2, x3⟩
    have hsbw : sb < w.heap.size := hsb
    have hZl := hZ.out.lt
    have keepz : ∀ v, Chg (fun k _ => w.heap.size ≤ k ∧ k ≠ Z) wr.drew v → v.cell? ⟨Z, 0, none⟩ = some (.pointer (some ⟨G, 0, none⟩)) ∧ v.cell? ⟨Z, 1, none⟩ = some (.pointer (some ⟨R, 0, none⟩)) ∧ v.cell? ⟨sb, so + k * 4, none⟩ = some (.int .i64 kd) ∧ v.cell? ⟨sb, so + k * 4 + 1, none⟩ = some (.int .i64 of_) ∧ v.cell? ⟨sb, so + k * 4 + 2, none⟩ = some (.int .i64 a) ∧ v.cell? ⟨sb, so + k * 4 + 3, none⟩ = some (.int .i64 b) := fun v hv =>
      ⟨hv.cell (fun h => h.2 rfl) T0.1, hv.cell (fun h => h.2 rfl) T0.2.1, hv.cell (fun h => by have := h.1; omega) T0.2.2.1, hv.cell (fun h => by have := h.1; omega) T0.2.2.2.1, hv.cell (fun h => by have := h.1; omega) T0.2.2.2.2.1, hv.cell (fun h => by have := h.1; omega) T0.2.2.2.2.2⟩
    have KZ := Lib.hid keepz
    clear hx hc keepz
    go_wp2_with fail
    go_region_held3 (fun w' => w'.cell? ⟨Z, 0, none⟩ = some (.pointer (some ⟨G, 0, none⟩)) ∧ w'.cell? ⟨Z, 1, none⟩ = some (.pointer (some ⟨R, 0, none⟩)) ∧ w'.cell? ⟨sb, so + k * 4, none⟩ = some (.int .i64 kd) ∧ w'.cell? ⟨sb, so + k * 4 + 1, none⟩ = some (.int .i64 of_) ∧ w'.cell? ⟨sb, so + k * 4 + 2, none⟩ = some (.int .i64 a) ∧ w'.cell? ⟨sb, so + k * 4 + 3, none⟩ = some (.int .i64 b)) (first | exact T0 | exact KZ.out _ hC3.out) (first | (go_at_call 22; (with_reducible refine MV.out.mono ?_); rintro e w3 ⟨rfl, c3, hps⟩; have hC3 := Lib.hid c3; have HPS := Lib.hid hps; clear c3 hps))
    all_goals
      obtain ⟨s', r', F', FR', FB', fn', kn', mk', hP'⟩ := HPS.out
      have HP' := Lib.hid hP'
      have HC' := Lib.hid (hC.out.drew.trans hC3.out fun _ _ _ h => h)
      have HZ' := Lib.hid (hC3.out.blk (show Blk wr.drew Z _ _ from hZ.out) fun i h => h.2 rfl)
      clear hP'
      go_wp2
      go_roundw
      case rel => exact ⟨k + 1, s', r', F', FR', FB', fn', kn', mk', by omega, by go_num, HP', HC', HZ'⟩
      case measure => simp [intOf]; omega
theorem moves_law (limit width : Int) (A0 : Option Addr) (c0 : Nat) (l : List (Int × Int × Int × Int)) (w : World) (_ : (Lit.int .i64 limit).wf = true) (_ : (Lit.int .i64 width).wf = true) (hl : l.length ≤ 1048576) (hs : RdS encO4 4 w A0 l) (hwf : ∀ x ∈ l, (Lit.int .i64 x.2.2.1).wf = true) :
    Calls Try.prog 5 #[.int .i64 limit, .int .i64 width, .slice A0 l.length c0] w fun e w' => e = .returned (.bool true) ∧ Below w.heap.size w w' := by
  by_cases h : goodB limit width
  · exact tm_yes h hl hs hwf
  · exact tm_no h
end
end Go.Proofs.Ytagkhhoimgighaa
