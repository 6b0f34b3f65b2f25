/- The digest whose constants are roots, by contract; DigestRoots. -/
import Derived.Test.YtepikbmlhejobaaDoorRootsD
namespace Go.Proofs.YtepikbmlhejobaaDoor
open Go.RowKit
set_option linter.unusedSimpArgs false
def p64 : List Nat := [2, 3, 5, 7, 11, 13, 17, 19, 23, 29, 31, 37, 41, 43, 47, 53, 59, 61, 67, 71, 73, 79, 83, 89, 97, 101, 103, 107, 109, 113, 127, 131, 137, 139, 149, 151, 157, 163, 167, 173, 179, 181, 191, 193, 197, 199, 211, 223, 227, 229, 233, 239, 241, 251, 257, 263, 269, 271, 277, 281, 283, 293, 307, 311]
theorem primes64_eq : primes64 = p64 := by decide +kernel
theorem roots3 : p64.map (fun p => UInt32.ofNat (rootTo p 3 40)) = ksL := by decide +kernel
theorem roots2 : (p64.take 8).map (fun p => UInt32.ofNat (rootTo p 2 40)) = startS.list := by decide +kernel
theorem p64_len : p64.length = 64 := rfl
theorem p64_lt : ∀ p ∈ p64, p < 65536 := by decide
/-- the first i constants, the others zero -/
def ksTo (i : Nat) : List UInt32 := ksL.take i ++ List.replicate (64 - i) 0
def stTo (i : Nat) : List UInt32 := startS.list.take i ++ List.replicate (8 - i) 0
theorem to_len {l : List UInt32} {n i : Nat} (hl : l.length = n) : (l.take i ++ List.replicate (n - i) 0).length = n := by simp; omega
theorem to_set {l : List UInt32} {n i : Nat} {x : UInt32} (hl : l.length = n) (hx : l[i]? = some x) : (l.take i ++ List.replicate (n - i) 0).set i x = l.take (i + 1) ++ List.replicate (n - (i + 1)) 0 := by
  have hi := (List.getElem?_eq_some_iff.1 hx).1
  rw [List.set_append_right _ _ (by rw [List.length_take]; omega), List.length_take, Nat.min_eq_left (by omega), Nat.sub_self, show n - i = (n - (i + 1)) + 1 by omega, List.replicate_succ, List.set_cons_zero, List.take_add_one, hx, List.append_assoc]
  rfl
theorem to_zero {l : List UInt32} {n : Nat} : l.take 0 ++ List.replicate (n - 0) 0 = List.replicate n 0 := by simp
theorem to_all {l : List UInt32} {n i : Nat} (hl : l.length = n) (h : n ≤ i) : l.take i ++ List.replicate (n - i) 0 = l := by rw [List.take_of_length_le (by omega), show n - i = 0 by omega]; simp
theorem root3_at {i p : Nat} (h : p64[i]? = some p) : ksL[i]? = some (UInt32.ofNat (rootTo p 3 40)) := by rw [← roots3, List.getElem?_map, h]; rfl
theorem root2_at {i p : Nat} (h : p64[i]? = some p) (hi : i < 8) : startS.list[i]? = some (UInt32.ofNat (rootTo p 2 40)) := by rw [← roots2, List.getElem?_map, List.getElem?_take, if_pos hi, h]; rfl
theorem startS_len : startS.list.length = 8 := startS.list_len
set_option maxRecDepth 20000 in
set_option maxHeartbeats 4000000 in
theorem byRoots_any (A : Option Addr) (c n : Nat) (l : List UInt8) (w : World) (hn : l.length = n) (hb : n ≤ 140737488355200) (h : Rd encB w A l) :
    Calls Tryd.prog 27 #[.slice A n c] w fun e w' => e = .returned (.agg (arr encB (digestL ksL startS l))) ∧ Below w.heap.size w w' := by
  have z1 := zeroA32
  have z2 := zeroR
  have z3 := zeroW'
  have HP := Lib.hid h
  have HN := Lib.hid hn
  have B0 : Below w.heap.size w (w.alloc (.cells (arr encB zero32) 36)) := (Below.refl _ w).alloc (Nat.le_refl _) _
  have b0 := Blk.new w 36 (arr encB zero32)
  have g1 := Lib.hid (primes_any (w.alloc (.cells (arr encB zero32) 36)))
  clear h hn
  go_enter Tryd.func27, Tryd.ntmps27
  go_wp2_with fail
  refine g1.out.mono ?_
  rintro e w1 ⟨A1, c1, rfl, hr, hB1⟩
  rw [primes64_eq] at hr
  have b1 := b0.below hB1 b0.lt
  have B1 := B0.trans (hB1.mono B0.size)
  obtain ⟨H, hH⟩ : ∃ H, H = w1.heap.size := ⟨_, rfl⟩
  have HH := Lib.hid hH
  have hwH : w.heap.size < H := by rw [hH]; exact b1.lt
  obtain ⟨W, hW⟩ : ∃ W, W = (w1.alloc (.cells (arr enc32 zero8) 57)).alloc (.cells (arr enc32 zero64) 67) := ⟨_, rfl⟩
  have HW := Lib.hid hW
  have e0 : Blk W w.heap.size 36 (arr encB zero32) := by rw [hW]; exact (b1.alloc _).alloc _
  have e4 : Blk W H 57 (arr enc32 (stTo 0)) := by rw [hW, hH, stTo, to_zero]; exact (Blk.new w1 _ _).alloc _
  have e5 : Blk W (H + 1) 67 (arr enc32 (ksTo 0)) := by
    rw [hW, ksTo, to_zero]
    have := Blk.new (w1.alloc (.cells (arr enc32 zero8) 57)) 67 (arr enc32 zero64)
    rw [World.size_alloc, ← hH] at this
    exact this
  have er : Rd encN W A1 p64 := by rw [hW]; exact (hr.alloc _).alloc _
  have eB : Below w.heap.size w W := by rw [hW]; exact (B1.alloc B1.size _).alloc (by simp; have := B1.size; omega) _
  have hlA : ∀ ad, A1 = some ad → ad.block < H := fun ad e => by
    obtain ⟨ad', e', hlt⟩ := hr.blk_lt (by intro e2; cases e2)
    rw [e] at e'; cases e'
    rw [hH]; exact hlt
  clear g1 b0 B0 b1 B1 hr hB1 hH hW
  go_wp2_with fail
  rw [← HW.out, ← HH.out]
  go_loopw [6] (fun t6 wr => ∃ i : Nat, i ≤ 64 ∧ t6 = .int .i64 (i : Int) ∧ Rd encN wr A1 p64 ∧ Blk wr w.heap.size 36 (arr encB zero32) ∧ Blk wr H 57 (arr enc32 (stTo i)) ∧ Blk wr (H + 1) 67 (arr enc32 (ksTo i)) ∧ Below w.heap.size w wr) (fun t6 _ => 64 - (intOf t6).toNat)
  case atStart => exact ⟨0, by omega, rfl, er, e0, e4, e5, eB⟩
  case round =>
    obtain ⟨i, hi, rfl, hr, b0, b4, b5, hB⟩ := hrel
    clear er e0 e4 e5 eB
    by_cases hlt : i < 64
    · have hlt' : (i : Int) < 64 := by omega
      obtain ⟨ad, p, hA, hx, hc⟩ := hr.at_ (show i < p64.length from hlt)
      have hpl := p64_lt p (List.mem_of_getElem? hx)
      have k3 := Lib.hid (root3_at hx)
      have k2 := Lib.hid (root2_at hx)
      have HX := Lib.hid hx
      have HR := Lib.hid hr
      have g1 := Lib.hid (root_any p 3 hpl (.inr rfl) wr)
      clear hx hr
      subst hA
      go_wp2_with fail
      refine g1.out.mono ?_
      rintro e w2 ⟨rfl, hB2⟩
      have r2 := HR.out.below hB2
      have b2 := b0.below hB2 b0.lt
      have b42 := b4.below hB2 b4.lt
      have b52 := b5.below hB2 b5.lt
      have B2 := hB.trans (hB2.mono hB.size)
      obtain ⟨u, hu⟩ : ∃ u, u = UInt32.ofNat (rootTo p 3 40) := ⟨_, rfl⟩
      rw [← hu] at k3 ⊢
      obtain ⟨z, hz⟩ : ∃ z, (ksTo i)[i]? = some z := ⟨_, List.getElem?_eq_getElem (by rw [show (ksTo i).length = 64 from to_len ksL_len]; exact hlt)⟩
      have xz : w2.cell? ⟨H + 1, i, none⟩ = some (enc32 z) := (b52.cell _).trans (arr_at hz)
      have fz := b52.frozen i
      have i8 : (0 : Int) ≤ (i : Int) ∧ (i : Int) < 64 := by omega
      have hg3 : w2.grownBy (w2.setCell ⟨H + 1, i, none⟩ (enc32 u)) (some (H + 1)) := only_setCell (only_refl w2 _) (.inl rfl) _
      have r3 := r2.grown hg3 (fun ad e e2 => by have := hlA ad e; injection e2 with e3; omega)
      have b3 := b2.grown hg3 (by intro e; injection e with e; omega)
      have b43 := b42.grown hg3 (by intro e; injection e with e; omega)
      have b53 := b52.set_ i (enc32 u)
      rw [arr_set, show (ksTo i).set i u = ksTo (i + 1) from to_set ksL_len k3.out] at b53
      have B3 := below_only B2 hg3 B2.size (by omega)
      have hc3 : (w2.setCell ⟨H + 1, i, none⟩ (enc32 u)).cell? (ad.add i) = some (encN p) := by
        obtain ⟨ad', p', e1, e2, e3⟩ := r3.at_ (show i < p64.length from hlt)
        cases e1
        have e4 : p' = p := Option.some.inj (e2.symm.trans HX.out)
        rw [e4] at e3
        exact e3
      have g2 := Lib.hid (root_any p 2 hpl (.inl rfl) (w2.setCell ⟨H + 1, i, none⟩ (enc32 u)))
      obtain ⟨W3, hW3⟩ : ∃ W3, W3 = w2.setCell ⟨H + 1, i, none⟩ (enc32 u) := ⟨_, rfl⟩
      rw [← hW3] at r3 b3 b43 b53 B3 hc3 g2
      have HW3 := Lib.hid hW3
      have R3 := Lib.hid r3
      clear hz hu g1 hB hB2 r2 b2 b42 b52 B2 hg3 b0 b4 b5 hW3 r3
      by_cases h8 : i < 8
      · have h8' : (i : Int) < 8 := by omega
        obtain ⟨y, hy⟩ : ∃ y, (stTo i)[i]? = some y := ⟨_, List.getElem?_eq_getElem (by rw [show (stTo i).length = 8 from to_len startS_len]; exact h8)⟩
        obtain ⟨v, hv⟩ : ∃ v, v = UInt32.ofNat (rootTo p 2 40) := ⟨_, rfl⟩
        have k2' := k2.out h8
        rw [← hv] at g2 k2'
        have K2 := Lib.hid k2'
        clear hv k2'
        go_wp2_with (rw [← HW3.out])
        refine g2.out.mono ?_
        rintro e w4 ⟨rfl, hB4⟩
        have r4 := R3.out.below hB4
        have b4' := b3.below hB4 b3.lt
        have b44 := b43.below hB4 b43.lt
        have b54 := b53.below hB4 b53.lt
        have B4 := B3.trans (hB4.mono B3.size)
        have xy : w4.cell? ⟨H, i, none⟩ = some (enc32 y) := (b44.cell _).trans (arr_at hy)
        have fy := b44.frozen i
        have j8 : (0 : Int) ≤ (i : Int) ∧ (i : Int) < 8 := by omega
        have hg5 : w4.grownBy (w4.setCell ⟨H, i, none⟩ (enc32 v)) (some H) := only_setCell (only_refl w4 _) (.inl rfl) _
        have r5 := r4.grown hg5 (fun ad e e2 => by have := hlA ad e; injection e2 with e3; omega)
        have b5 := b4'.grown hg5 (by intro e; injection e with e; omega)
        have b45 := b44.set_ i (enc32 v)
        rw [arr_set, show (stTo i).set i v = stTo (i + 1) from to_set startS_len K2.out] at b45
        have b55 := b54.grown hg5 (by intro e; injection e with e; omega)
        have B5 := below_only B4 hg5 B4.size (by omega)
        clear hy g2 hB4 r4 b4' b44 b54 B4 hg5
        go_wp2
        go_roundw
        case rel => exact ⟨i + 1, by omega, by go_num, r5, b5, b45, b55, B5⟩
        case measure => simp [intOf]; omega
      · have h8' : ¬ (i : Int) < 8 := by omega
        have hs : stTo i = stTo (i + 1) := by rw [stTo, stTo, to_all startS_len (by omega), to_all startS_len (by omega)]
        rw [hs] at b43
        go_wp2_with (rw [← HW3.out])
        go_roundw
        case rel => exact ⟨i + 1, by omega, by go_num, R3.out, b3, b43, b53, B3⟩
        case measure => simp [intOf]; omega
    · obtain rfl : i = 64 := by omega
      rw [show stTo 64 = startS.list from to_all startS_len (by omega)] at b4
      rw [show ksTo 64 = ksL from to_all ksL_len (by omega)] at b5
      have BB := Lib.hid hB
      have g1 := Lib.hid (sumWith_any ksL ksL_len startS A c n l wr HN.out hb (HP.out.below hB))
      clear hr hB
      go_wp2_with (first
        | ((with_reducible refine wpList_load_blk rfl 57 (.tmp 4) rfl H 57 (arr enc32 startS.list) ?hb rfl rTy rfl (rSz startS_len) ?_); case hb => exact b4)
        | ((with_reducible refine wpList_load_blk rfl 67 (.tmp 5) rfl (H + 1) 67 (arr enc32 ksL) ?hb rfl wTy rfl (wSz ksL_len) ?_); case hb => exact b5))
      refine g1.out.mono ?_
      rintro e w2 ⟨rfl, hB2⟩
      have b2 := b0.below hB2 b0.lt
      have B2 := BB.out.trans (hB2.mono BB.out.size)
      have HDL := Lib.hid (digestL_len ksL startS l)
      obtain ⟨D, hD⟩ : ∃ D, D = digestL ksL startS l := ⟨_, rfl⟩
      rw [← hD] at HDL ⊢
      have HD := Lib.hid hD
      clear g1 b4 b5 b0 hB2 hD
      go_wp2_with (first
        | ((with_reducible refine wpList_store_blk rfl 36 (.tmp 2) (.tmp 31) rfl w.heap.size 36 (arr encB zero32) (arr encB D) ?hb rfl rfl (arrSz HDL.out) ?hl (arr_one encB_one _) ?_); (case hb => exact b2); (case hl => rw [arr_size, arr_size, zero32_len, HDL.out]); intro w9 hb9 hg9 hs9))
      refine bodyPost_cell rfl w.heap.size 36 _ (0, 0) _ rfl hb9 arrTy rfl (arrSz HDL.out) rfl ⟨by rw [HD.out], below_only B2 hg9 B2.size (Nat.le_refl _)⟩
end Go.Proofs.YtepikbmlhejobaaDoor
