/- Package bitmap: in memory; room, valid, New, lay, by contract. -/
import Derived.Test.YtdhccjmokmdboaaDoorProg
import Derived.Test.YtdhccjmokmdboaaDoorArr
import Derived.Test.YtdhccjmokmdboaaDoorWkA
import Derived.Shelf.Spec.TrailingZeros
import Derived.Lib.Hide
import Derived.Laws.Bits128
import Derived.StillTailTactics
import Derived.Deep.RegionHeld3
import Derived.Deep.Cut
import Derived.WalkKit
import Derived.Outline
namespace Go.Proofs.YtdhccjmokmdboaaDoor
open Go.RowKit
set_option linter.unusedVariables false
set_option linter.unusedSimpArgs false
abbrev encU (x : Nat) : Value := .int .u64 (x : Int)
abbrev rowU (l : List Nat) : Array Value := (l.map encU).toArray
theorem rowU_at (l : List Nat) (i : Nat) : (rowU l)[i]? = (l[i]?).map encU := by simp [rowU]
theorem rowU_set (l : List Nat) (i x : Nat) : (rowU l).setIfInBounds i (encU x) = rowU (l.set i x) := by simp [rowU, List.map_set]
set_option maxRecDepth 20000 in
theorem room_any (n R : Nat) (hR : R = (n + 63) / 64) (hn : n ≤ 65536) (w : World) : Calls Tryd.prog 32 #[.int .i64 (n : Int)] w fun e w' => e = .returned (.int .i64 (R : Int)) ∧ w = w' := by
  subst hR
  have h1 : IntKind.i64.wrap ((n : Int) + 63) = (n : Int) + 63 := i64_in_ _ (by omega)
  have h2 : ((n : Int) + 63).tdiv 64 = (((n + 63) / 64 : Nat) : Int) := by rw [Int.tdiv_eq_ediv_of_nonneg (by omega)]; omega
  go_enter Tryd.func32, Tryd.ntmps32
  go_wp2
  go_ret
  exact ⟨by first | rfl | (congr 2; omega) | (rw [h2]), rfl⟩
set_option maxRecDepth 20000 in
set_option maxHeartbeats 2000000 in
/-- how many bits are set: some number (nothing leans on which) -/
theorem ones_ex (x : Nat) : ∃ v : Int, ∀ w : World, Calls Tryd.prog 33 #[.int .u64 (x : Int)] w fun e w' => e = .returned (.int .i64 v) ∧ w = w' := by
  exact ⟨_, fun w => by
    go_enter Tryd.func33, Tryd.ntmps33
    go_wp2
    go_ret
    exact ⟨rfl, rfl⟩⟩
/-- the table of the library's -/
def TabW (w : World) : Prop := TabAt 0 Go.Lib.deBruijn64tab w
theorem TabW.below {B : Nat} {w w' : World} (h : TabW w) (hb : Below B w w') (hB : 0 < B) : TabW w' := fun j hj => (hb.cell (p := ⟨0, j, none⟩) hB).trans (h j hj)
theorem TabW.chg {F : Nat → Nat → Prop} {w w' : World} (h : TabW w) (hc : Chg F w w') (hn : ∀ i, ¬ F 0 i) : TabW w' := fun j hj => hc.cell (hn j) (h j hj)
set_option maxRecDepth 20000 in
set_option maxHeartbeats 2000000 in
theorem tz_core (x k idx : Nat) (w : World) (hx0 : ((x : Int) == 0) = false) (key : IntKind.u64.wrap (bits BinOp.and IntKind.u64 (x : Int) (IntKind.u64.wrap (-(x : Int))) * 285870213051353865) / 288230376151711744 = (idx : Int)) (hi : idx < 64) (hk : k < 64) (hcell : w.cell? ⟨0, idx, none⟩ = some (.int .u8 k)) :
    Calls Tryd.prog 34 #[.int .u64 (x : Int)] w fun e w' => e = .returned (.int .i64 (k : Int)) ∧ w = w' := by
  go_enter Tryd.func34, Tryd.ntmps34
  go_wp2_with (simp only [key])
  go_ret
  exact ⟨rfl, rfl⟩
theorem tz_any (x : Nat) (hx : x < 18446744073709551616) (h0 : x ≠ 0) (w : World) (hT : TabW w) : Calls Tryd.prog 34 #[.int .u64 (x : Int)] w fun e w' => e = .returned (.int .i64 (Go.Lib.ctz 64 x : Nat)) ∧ w = w' := by
  obtain ⟨hlow, hk⟩ := Go.Lib.lowest_bit 64 x h0 hx
  obtain ⟨hi, htab⟩ := Go.Lib.deBruijn64_at _ hk
  have hcell := hT _ hi
  rw [htab] at hcell
  exact tz_core x _ _ w (by simp; omega) (tz64_key x _ hx h0 hlow) hi hk hcell
/-! ### valid -/
def vldE (n : Nat) (ws : List Nat) : Int := if ws.length ≠ (n + 63) / 64 then 3 else if (List.range (64 * ws.length)).any (fun i => decide (n ≤ i) && bitW ws i) then 2 else 0
theorem vld_any_false {n : Nat} {ws : List Nat} : (List.range (64 * ws.length)).any (fun i => decide (n ≤ i) && bitW ws i) = false ↔ ∀ i, n ≤ i → bitW ws i = false := by
  rw [List.any_eq_false]
  constructor
  · intro h i hi
    by_cases hl : i < 64 * ws.length
    · have := h i (List.mem_range.2 hl)
      simpa [hi] using this
    · unfold bitW
      rw [List.getD_eq_getElem?_getD, List.getElem?_eq_none (by omega)]
      simp
  · intro h i _
    by_cases hn : n ≤ i
    · simp [hn, h i hn]
    · simp [hn]
theorem vld_ok {n : Nat} {ws : List Nat} (hb : ∀ x ∈ ws, x < 18446744073709551616) : vldE n ws = 0 ↔ okW n ws := by
  unfold vldE okW
  by_cases hl : ws.length = (n + 63) / 64
  · rw [if_neg (by simpa using hl)]
    cases ha : (List.range (64 * ws.length)).any (fun i => decide (n ≤ i) && bitW ws i) with
    | false => simp only [Bool.false_eq_true, if_false, true_iff]; exact ⟨hl, hb, vld_any_false.1 ha⟩
    | true =>
      simp only [if_true]
      constructor
      · intro h; cases h
      · rintro ⟨_, _, h⟩
        rw [vld_any_false.2 h] at ha; cases ha
  · rw [if_pos hl]
    constructor
    · intro h; cases h
    · rintro ⟨h, _⟩; exact absurd h hl
theorem last_word {n : Nat} {ws : List Nat} (hl : ws.length = (n + 63) / 64) (hm : n % 64 ≠ 0) (hb : ∀ x ∈ ws, x < 18446744073709551616) : (ws.getD (ws.length - 1) 0 / 2 ^ (n % 64) = 0) ↔ ∀ i, n ≤ i → bitW ws i = false := by
  have tb : ∀ m, (ws.getD (ws.length - 1) 0 / 2 ^ (n % 64)).testBit m = (ws.getD (ws.length - 1) 0).testBit (n % 64 + m) := fun m => by
    rw [← Nat.shiftRight_eq_div_pow, Nat.testBit_shiftRight]
  have hi : ws.length - 1 = n / 64 := by omega
  constructor
  · intro h0 i h1
    by_cases e : i / 64 = n / 64
    · have := tb (i - n)
      rw [h0] at this
      unfold bitW
      rw [e, ← hi, show i % 64 = n % 64 + (i - n) by omega, ← this]
      simp
    · unfold bitW
      rw [List.getD_eq_getElem?_getD, List.getElem?_eq_none (by omega)]
      simp
  · intro h
    apply Nat.eq_of_testBit_eq
    intro m
    rw [tb, Nat.zero_testBit]
    by_cases hlt : n % 64 + m < 64
    · have := h (n + m) (by omega)
      unfold bitW at this
      rw [show (n + m) / 64 = ws.length - 1 by omega, show (n + m) % 64 = n % 64 + m by omega] at this
      exact this
    · have hlw : ws.getD (ws.length - 1) 0 < 18446744073709551616 := by
        rw [List.getD_eq_getElem?_getD]
        cases hx : ws[ws.length - 1]? with
        | none => simp
        | some x => exact hb x (List.mem_of_getElem? hx)
      exact Nat.testBit_lt_two_pow (Nat.lt_of_lt_of_le hlw (show 18446744073709551616 ≤ 2 ^ _ from Nat.pow_le_pow_right (n := 2) (i := 64) (by omega) (by omega)))
theorem vldE_last {n : Nat} {ws : List Nat} (hl : ws.length = (n + 63) / 64) (hb : ∀ x ∈ ws, x < 18446744073709551616) : vldE n ws = if n % 64 ≠ 0 ∧ ws.getD (ws.length - 1) 0 / 2 ^ (n % 64) ≠ 0 then 2 else 0 := by
  unfold vldE
  rw [if_neg (by simpa using hl)]
  by_cases hm : n % 64 = 0
  · have ha : (List.range (64 * ws.length)).any (fun i => decide (n ≤ i) && bitW ws i) = false := vld_any_false.2 fun i hi => by
      unfold bitW
      rw [List.getD_eq_getElem?_getD, List.getElem?_eq_none (by omega)]
      simp
    rw [ha]
    simp [hm]
  · by_cases h0 : ws.getD (ws.length - 1) 0 / 2 ^ (n % 64) = 0
    · rw [vld_any_false.2 ((last_word hl hm hb).1 h0), if_neg (show ¬ (n % 64 ≠ 0 ∧ ws.getD (ws.length - 1) 0 / 2 ^ (n % 64) ≠ 0) from fun h => h.2 h0)]
      rfl
    · have ha : (List.range (64 * ws.length)).any (fun i => decide (n ≤ i) && bitW ws i) = true := by
        rw [← Bool.not_eq_false, vld_any_false]
        exact fun h => h0 ((last_word hl hm hb).2 h)
      rw [ha, if_pos (show n % 64 ≠ 0 ∧ _ from ⟨hm, h0⟩)]
      rfl
set_option maxRecDepth 20000 in
set_option maxHeartbeats 2000000 in
theorem valid_any (n : Nat) (h1 : 1 ≤ n) (hn : n ≤ 65536) (A : Option Addr) (c : Nat) (ws : List Nat) (hl : ws.length ≤ 9223372036854775807) (hb : ∀ x ∈ ws, x < 18446744073709551616) (w : World) (hr : Rd encU w A ws) :
    Calls Tryd.prog 28 #[.int .i64 (n : Int), .slice A ws.length c] w fun e w' => e = .returned (.int .i64 (vldE n ws)) ∧ w = w' := by
  by_cases hlen : ws.length = (n + 63) / 64
  · have HR := Lib.hid (room_any n ws.length hlen hn)
    have hlp : 0 < ws.length := by omega
    have hv := vldE_last hlen hb
    obtain ⟨L, hL⟩ : ∃ L, L = ws.length := ⟨_, rfl⟩
    obtain ⟨ad, x, hA, hx, hc⟩ := hr.at_ (k := ws.length - 1) (by omega)
    subst hA
    have hx2 : ws.getD (ws.length - 1) 0 = x := by rw [List.getD_eq_getElem?_getD, hx]; rfl
    rw [hx2] at hv
    rw [← hL] at hc HR ⊢
    have hxb := hb x (List.mem_of_getElem? hx)
    have hLb : L ≤ 9223372036854775807 := by omega
    have hL1 : 1 ≤ L := by omega
    have hs1 : IntKind.i64.wrap ((L : Int) - 1) = ((L - 1 : Nat) : Int) := by rw [i64_in_ _ (by omega)]; omega
    have HV := Lib.hid hv
    have hm2 : (n : Int).tmod 64 = ((n % 64 : Nat) : Int) := by rw [Int.tmod_eq_emod_of_nonneg (by omega)]; omega
    clear hx hx2 hL hr hlen hlp hv
    by_cases hm : n % 64 = 0
    · have hv2 : vldE n ws = 0 := by rw [HV.out, if_neg (fun h => h.1 hm)]
      have hm3 : ((n : Int) % 64 != 0) = false := by simp; omega
      rw [hv2]
      clear hv2 hm hm2
      go_enter Tryd.func28, Tryd.ntmps28
      go_wp2_with (go_at_call 32; (with_reducible refine (HR.out _).mono ?_); rintro e w' ⟨rfl, rfl⟩)
      go_ret
      exact ⟨rfl, rfl⟩
    · have hm3 : ((n : Int) % 64 != 0) = true := by simp; omega
      have hcast : (x : Int) / 2 ^ (n % 64) = ((x / 2 ^ (n % 64) : Nat) : Int) := by rw [Int.natCast_ediv, Int.natCast_pow]; rfl
      by_cases h0 : x / 2 ^ (n % 64) = 0
      · have hv2 : vldE n ws = 0 := by rw [HV.out, if_neg (fun h => h.2 h0)]
        have hz : ((x : Int) / 2 ^ (n % 64) != 0) = false := by rw [hcast, h0]; rfl
        rw [hv2]
        clear hv2 hm hm2 hcast h0
        go_enter Tryd.func28, Tryd.ntmps28
        go_wp2_with (go_at_call 32; (with_reducible refine (HR.out _).mono ?_); rintro e w' ⟨rfl, rfl⟩)
        go_ret
        exact ⟨rfl, rfl⟩
      · have hv2 : vldE n ws = 2 := by rw [HV.out, if_pos ⟨hm, h0⟩]
        have hz : ((x : Int) / 2 ^ (n % 64) != 0) = true := by rw [hcast, bne_iff_ne]; omega
        rw [hv2]
        clear hv2 hm hm2 hcast h0
        go_enter Tryd.func28, Tryd.ntmps28
        go_wp2_with (go_at_call 32; (with_reducible refine (HR.out _).mono ?_); rintro e w' ⟨rfl, rfl⟩)
        go_ret
        exact ⟨rfl, rfl⟩
  · obtain ⟨R, hR⟩ : ∃ R, R = (n + 63) / 64 := ⟨_, rfl⟩
    have HR := Lib.hid (room_any n R hR hn)
    have hLi : (((ws.length : Nat) : Int) == (R : Int)) = false := by rw [beq_eq_false_iff_ne]; omega
    have hv : vldE n ws = 3 := if_pos hlen
    rw [hv]
    obtain ⟨L, hL⟩ : ∃ L, L = ws.length := ⟨_, rfl⟩
    rw [← hL] at hLi ⊢
    clear hv hlen hL hR
    go_enter Tryd.func28, Tryd.ntmps28
    go_wp2_with (go_at_call 32; (with_reducible refine (HR.out _).mono ?_); rintro e w' ⟨rfl, rfl⟩)
    go_ret
    exact ⟨rfl, rfl⟩
/-! ### the bitmap in memory -/
structure Bm (w : World) (M gw ga n : Nat) (ws us : List Nat) : Prop where
  blk : ∃ cnt : Int, Blk w M 74 #[.int .i64 (n : Int), .slice (some ⟨gw, 0, none⟩) ws.length ws.length, .slice (some ⟨ga, 0, none⟩) us.length us.length, .int .i64 cnt]
  wb : Blk w gw 28 (rowU ws)
  ab : Blk w ga 28 (rowU us)
  ne : gw ≠ ga
section
variable {w w' : World} {M gw ga n : Nat} {ws us : List Nat} {F : Nat → Nat → Prop}
theorem Bm.chg (h : Bm w M gw ga n ws us) (hc : Chg F w w') (h1 : ∀ i, ¬ F M i) (h2 : ∀ i, ¬ F gw i) (h3 : ∀ i, ¬ F ga i) : Bm w' M gw ga n ws us :=
  ⟨by obtain ⟨cnt, hb⟩ := h.blk; exact ⟨cnt, hc.blk hb h1⟩, hc.blk h.wb h2, hc.blk h.ab h3, h.ne⟩
theorem Bm.lt (h : Bm w M gw ga n ws us) : M < w.heap.size ∧ gw < w.heap.size ∧ ga < w.heap.size := ⟨by obtain ⟨cnt, hb⟩ := h.blk; exact hb.lt, h.wb.lt, h.ab.lt⟩
theorem Bm.word (h : Bm w M gw ga n ws us) {k : Nat} (hk : k < ws.length) : w.cell? ⟨gw, k, none⟩ = some (encU (ws.getD k 0)) := by
  rw [h.wb.cell, rowU_at, List.getElem?_eq_getElem hk, List.getD_eq_getElem?_getD, List.getElem?_eq_getElem hk]; rfl
theorem Bm.up (h : Bm w M gw ga n ws us) {k : Nat} (hk : k < us.length) : w.cell? ⟨ga, k, none⟩ = some (encU (us.getD k 0)) := by
  rw [h.ab.cell, rowU_at, List.getElem?_eq_getElem hk, List.getD_eq_getElem?_getD, List.getElem?_eq_getElem hk]; rfl
theorem Bm.nes (h : Bm w M gw ga n ws us) : gw ≠ M ∧ ga ≠ M := by
  obtain ⟨cnt, hb⟩ := h.blk
  exact ⟨h.wb.ne_ hb (by decide), h.ab.ne_ hb (by decide)⟩
theorem Bm.cnt (h : Bm w M gw ga n ws us) (v : Int) : Bm (w.setCell ⟨M, 3, none⟩ (.int .i64 v)) M gw ga n ws us := by
  obtain ⟨cnt, hb⟩ := h.blk
  have hc := Chg.setCell (fun k _ => k = M) w (g := M) (i := 3) rfl (.int .i64 v)
  exact ⟨⟨v, hb.set_ 3 _⟩, hc.blk h.wb fun i e => h.nes.1 e, hc.blk h.ab fun i e => h.nes.2 e, h.ne⟩
theorem Bm.setW (h : Bm w M gw ga n ws us) (k x : Nat) : Bm (w.setCell ⟨gw, k, none⟩ (encU x)) M gw ga n (ws.set k x) us := by
  obtain ⟨cnt, hb⟩ := h.blk
  have hc := Chg.setCell (fun k _ => k = gw) w (g := gw) (i := k) rfl (encU x)
  refine ⟨⟨cnt, ?_⟩, ?_, hc.blk h.ab fun i e => h.ne e.symm, h.ne⟩
  · rw [List.length_set]; exact hc.blk hb fun i e => h.nes.1 e.symm
  · rw [← rowU_set]; exact h.wb.set_ k _
theorem Bm.setA (h : Bm w M gw ga n ws us) (k x : Nat) : Bm (w.setCell ⟨ga, k, none⟩ (encU x)) M gw ga n ws (us.set k x) := by
  obtain ⟨cnt, hb⟩ := h.blk
  have hc := Chg.setCell (fun k _ => k = ga) w (g := ga) (i := k) rfl (encU x)
  refine ⟨⟨cnt, ?_⟩, hc.blk h.wb fun i e => h.ne e, ?_, h.ne⟩
  · rw [List.length_set]; exact hc.blk hb fun i e => h.nes.2 e.symm
  · rw [← rowU_set]; exact h.ab.set_ k _
theorem wrap_pow (k : Nat) : IntKind.u64.wrap (2 ^ (k % 64)) = ((2 ^ (k % 64) : Nat) : Int) := by
  have h : 2 ^ (k % 64) < 18446744073709551616 := Nat.pow_lt_pow_right (m := k % 64) (n := 64) (a := 2) (by omega) (by omega)
  rw [Int.natCast_pow]
  show IntKind.u64.wrap ((2 : Int) ^ (k % 64)) = (2 : Int) ^ (k % 64)
  have h2 : ((2 : Int) ^ (k % 64)) = ((2 ^ (k % 64) : Nat) : Int) := by rw [Int.natCast_pow]; rfl
  rw [IntKind.wrap_u64, h2]
  generalize 2 ^ (k % 64) = x at *
  omega
/-- what lay makes of a word of the upper level -/
def layV (a k x : Nat) : Nat := if x = 0 then a &&& (18446744073709551615 - 2 ^ (k % 64)) else a ||| 2 ^ (k % 64)
set_option maxRecDepth 20000 in
set_option maxHeartbeats 4000000 in
theorem lay_any (k x : Nat) (h : Bm w M gw ga n ws us) (hk : k < ws.length) (hA : k / 64 < us.length) (hx : x < 18446744073709551616) (ha : us.getD (k / 64) 0 < 18446744073709551616) (hb : ws.length ≤ 65536) :
    Calls Tryd.prog 29 #[.pointer (some ⟨M, 0, none⟩), .int .i64 (k : Int), .int .u64 (x : Int)] w fun e w' =>
      e = .returned (.tuple #[]) ∧ Bm w' M gw ga n (ws.set k x) (us.set (k / 64) (layV (us.getD (k / 64) 0) k x)) ∧ Chg (fun j _ => j = M ∨ j = gw ∨ j = ga) w w' := by
  obtain ⟨v1, o1⟩ := ones_ex x
  obtain ⟨v2, o2⟩ := ones_ex (ws.getD k 0)
  have O1 := Lib.hid o1
  have O2 := Lib.hid o2
  have H := Lib.hid h
  obtain ⟨cnt, hbk⟩ := h.blk
  have m1 : w.cell? ⟨M, 1, none⟩ = some (.slice (some ⟨gw, 0, none⟩) ws.length ws.length) := hbk.cell 1
  have m2 : w.cell? ⟨M, 2, none⟩ = some (.slice (some ⟨ga, 0, none⟩) us.length us.length) := hbk.cell 2
  have m3 : w.cell? ⟨M, 3, none⟩ = some (.int .i64 cnt) := hbk.cell 3
  have f3 : w.frozen? ⟨M, 3, none⟩ = false := hbk.frozen 3
  have x0 := h.word hk
  have hki : (k : Int) < (ws.length : Int) := by omega
  obtain ⟨L, hL⟩ : ∃ L, L = ws.length := ⟨_, rfl⟩
  rw [← hL] at m1 hki
  obtain ⟨y, hy⟩ : ∃ y, y = ws.getD k 0 := ⟨_, rfl⟩
  rw [← hy] at x0 O2
  have HBK := Lib.hid hbk
  have HL := Lib.hid hL
  have HY := Lib.hid hy
  clear h o1 o2 hbk hL hy
  go_enter Tryd.func29, Tryd.ntmps29
  go_wp2_with fail
  go_still_tail 18, (by kernel_rfl)
  still_call ((O1.out _).mono fun _ _ h => ⟨h.1, h.2.symm⟩)
  change wpStill _ _ w.drew _ _ _
  repeat still_step
  still_call ((O2.out _).mono fun _ _ h => ⟨h.1, h.2.symm⟩)
  change wpStill _ _ w.drew _ _ _
  repeat still_step
  refine wpStill_nil ?_
  obtain ⟨cv, hcv⟩ : ∃ c, c = wrap64 (cnt + wrap64 (v1 - v2)) := ⟨_, rfl⟩
  go_upto_region 1 with fail
  rw [← hcv]
  obtain ⟨W2, hW2⟩ : ∃ W, (w.setCell ⟨M, 3, none⟩ (.int .i64 cv)).drew = W := ⟨_, rfl⟩
  rw [hW2]
  have B2 : Bm W2 M gw ga n ws us := by rw [← hW2]; exact (H.out.cnt cv).chg ((Chg.refl (fun _ _ => False) _).drewN 1) (fun _ h => h) (fun _ h => h) fun _ h => h
  have c2 : Chg (fun j _ => j = M ∨ j = gw ∨ j = ga) w W2 := by rw [← hW2]; exact (Chg.setCell (fun j _ => j = M ∨ j = gw ∨ j = ga) w (g := M) (i := 3) (.inl rfl) _).drew
  clear hcv hW2 m1 m2 m3 f3 x0 HBK O1 O2
  obtain ⟨cnt2, hbk2⟩ := B2.blk
  have m1 : W2.cell? ⟨M, 1, none⟩ = some (.slice (some ⟨gw, 0, none⟩) L L) := by rw [HL.out]; exact hbk2.cell 1
  have y0 := B2.word hk
  have yf : W2.frozen? ⟨gw, k, none⟩ = false := B2.wb.frozen k
  have B3 := B2.setW k x
  have c3 := Chg.setCell (fun j _ => j = M ∨ j = gw ∨ j = ga) W2 (g := gw) (i := k) (.inr (.inl rfl)) (encU x)
  obtain ⟨W3, hW3⟩ : ∃ W, W2.setCell ⟨gw, k, none⟩ (encU x) = W := ⟨_, rfl⟩
  rw [hW3] at B3 c3
  obtain ⟨cnt3, hbk3⟩ := B3.blk
  obtain ⟨U, hU⟩ : ∃ U, U = us.length := ⟨_, rfl⟩
  have n2 : W3.cell? ⟨M, 2, none⟩ = some (.slice (some ⟨ga, 0, none⟩) U U) := by rw [hU]; exact hbk3.cell 2
  have z0 := B3.up hA
  have zf : W3.frozen? ⟨ga, k / 64, none⟩ = false := B3.ab.frozen _
  obtain ⟨q, hq⟩ : ∃ q, q = us.getD (k / 64) 0 := ⟨_, rfl⟩
  rw [← hq] at z0 ha
  have hqi : (k : Int) / 64 < (U : Int) := by omega
  have HC := Lib.hid (c2.trans c3 fun _ _ _ h => h)
  have HB3 := Lib.hid B3
  have HU := Lib.hid hU
  have HQ := Lib.hid hq
  have HW3 := Lib.hid hW3
  clear c2 c3 B3 B2 hU hq hW3 hbk2 hbk3 H
  go_upto_region 2 with fail
  have e3 : W2.setCell ⟨gw, k, none⟩ (.int .u64 (x : Int)) = W3 := HW3.out
  rw [e3]
  clear e3 m1 y0 yf
  have hp : 2 ^ (k % 64) < 18446744073709551616 := Nat.pow_lt_pow_right (m := k % 64) (n := 64) (a := 2) (by omega) (by omega)
  have HP := Lib.hid hp
  have HA := Lib.hid ha
  clear hp
  have FIN := Lib.hid (show ∀ v : Nat, v = layV q k x → Bm (W3.setCell ⟨ga, k / 64, none⟩ (encU v)) M gw ga n (ws.set k x) (us.set (k / 64) (layV (us.getD (k / 64) 0) k x)) ∧ Chg (fun j _ => j = M ∨ j = gw ∨ j = ga) w (W3.setCell ⟨ga, k / 64, none⟩ (encU v)) from fun v hv => by
    rw [← HQ.out, ← hv]
    exact ⟨HB3.out.setA _ _, HC.out.trans (Chg.setCell (fun j _ => j = M ∨ j = gw ∨ j = ga) W3 (g := ga) (i := k / 64) (.inr (.inr rfl)) _) fun _ _ _ h => h⟩)
  by_cases hx0 : x = 0
  · subst hx0
    go_wp2
    go_end0
    rw [wrap_pow, u64_andNot_nat _ _ HA.out HP.out]
    obtain ⟨h1, h2⟩ := FIN.out _ rfl
    exact ⟨rfl, h1, h2⟩
  · have hxi : ((x : Int) != 0) = true := by rw [bne_iff_ne]; omega
    go_wp2
    go_end0
    rw [wrap_pow, u64_or_nat _ _ HA.out HP.out]
    obtain ⟨h1, h2⟩ := FIN.out (q ||| 2 ^ (k % 64)) (by unfold layV; rw [if_neg hx0])
    exact ⟨rfl, h1, h2⟩
end
end Go.Proofs.YtdhccjmokmdboaaDoor
