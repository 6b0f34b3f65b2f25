/- Package bitmap: New, From, Next, by contract. -/
import Derived.Test.YtdhccjmokmdboaaDoorWkB
namespace Go.Proofs.YtdhccjmokmdboaaDoor
open Go.RowKit
set_option linter.unusedVariables false
set_option linter.unusedSimpArgs false
theorem wordTy : SlTy Tryd.prog 22 28 1 8 := SlTy.mk' (z := .int .u64 0) Tryd.underlying22 (by kernel_rfl) rfl
theorem mk_words (L : Nat) (h : L ≤ 65536) (W : World) : (Instr.makeSlice 22 (.int .i64 (L : Int)) (.int .i64 (L : Int))).run Tryd.prog W = .ok (.slice (some ⟨W.heap.size, 0, none⟩) L L) (W.alloc (.cells (rowU (List.replicate L 0)) 28)) := by
  obtain ⟨i, z, hi, hz, hs, hb, hc⟩ := wordTy.ex
  have e1 : (Tryd.prog.info? 28).map (·.zero) = some (some (.int .u64 0)) := by kernel_rfl
  rw [hi] at e1
  have e2 : z = .int .u64 0 := by
    simp only [Option.map_some, Option.some.injEq] at e1
    rw [hz] at e1
    exact Option.some.inj e1
  subst e2
  have h2 := run_make W 22 28 i (.int .u64 0) wordTy.und hi hz .i64 .i64 (L : Int) (L : Int) (by omega) (by omega) (by rw [hb]; omega) (by omega)
  rw [hs, Int.toNat_natCast] at h2
  rw [h2]
  congr 3
  apply Array.ext
  · simp [madeCells]
  · intro j h1 h3
    have h0 : j % 1 = 0 := Nat.mod_one j
    simp [madeCells, Value.cells, h0] at h1 ⊢
section
variable {w w' : World} {M gw ga n : Nat} {ws us : List Nat}
theorem bm_laid (w0 : World) (n R A : Nat) : Bm (((w0.alloc (.cells (rowU (List.replicate R 0)) 28)).alloc (.cells (rowU (List.replicate A 0)) 28)).alloc (.cells #[.int .i64 (n : Int), .slice (some ⟨w0.heap.size, 0, none⟩) R R, .slice (some ⟨w0.heap.size + 1, 0, none⟩) A A, .int .i64 0] 74)) (w0.heap.size + 1 + 1) w0.heap.size (w0.heap.size + 1) n (List.replicate R 0) (List.replicate A 0) ∧
    Below w0.heap.size w0 (((w0.alloc (.cells (rowU (List.replicate R 0)) 28)).alloc (.cells (rowU (List.replicate A 0)) 28)).alloc (.cells #[.int .i64 (n : Int), .slice (some ⟨w0.heap.size, 0, none⟩) R R, .slice (some ⟨w0.heap.size + 1, 0, none⟩) A A, .int .i64 0] 74)) := by
  have b1 := Blk.new w0 28 (rowU (List.replicate R 0))
  have b2 := Blk.new (w0.alloc (.cells (rowU (List.replicate R 0)) 28)) 28 (rowU (List.replicate A 0))
  have b3 := Blk.new ((w0.alloc (.cells (rowU (List.replicate R 0)) 28)).alloc (.cells (rowU (List.replicate A 0)) 28)) 74 #[.int .i64 (n : Int), .slice (some ⟨w0.heap.size, 0, none⟩) R R, .slice (some ⟨w0.heap.size + 1, 0, none⟩) A A, .int .i64 0]
  rw [World.size_alloc] at b2
  rw [World.size_alloc, World.size_alloc] at b3
  refine ⟨⟨⟨0, ?_⟩, (b1.alloc _).alloc _, b2.alloc _, by omega⟩, ((((Below.refl _ w0).alloc (Nat.le_refl _) _).alloc (by simp) _).alloc (by simp; omega) _)⟩
  rw [List.length_replicate, List.length_replicate]
  exact b3
theorem bm_laid2 (w0 : World) (n R A : Nat) : Bm (((w0.alloc (.cells (rowU (List.replicate A 0)) 28)).alloc (.cells (rowU (List.replicate R 0)) 28)).alloc (.cells #[.int .i64 (n : Int), .slice (some ⟨w0.heap.size + 1, 0, none⟩) R R, .slice (some ⟨w0.heap.size, 0, none⟩) A A, .int .i64 0] 74)) (w0.heap.size + 1 + 1) (w0.heap.size + 1) w0.heap.size n (List.replicate R 0) (List.replicate A 0) ∧
    Below w0.heap.size w0 (((w0.alloc (.cells (rowU (List.replicate A 0)) 28)).alloc (.cells (rowU (List.replicate R 0)) 28)).alloc (.cells #[.int .i64 (n : Int), .slice (some ⟨w0.heap.size + 1, 0, none⟩) R R, .slice (some ⟨w0.heap.size, 0, none⟩) A A, .int .i64 0] 74)) := by
  have b1 := Blk.new w0 28 (rowU (List.replicate A 0))
  have b2 := Blk.new (w0.alloc (.cells (rowU (List.replicate A 0)) 28)) 28 (rowU (List.replicate R 0))
  have b3 := Blk.new ((w0.alloc (.cells (rowU (List.replicate A 0)) 28)).alloc (.cells (rowU (List.replicate R 0)) 28)) 74 #[.int .i64 (n : Int), .slice (some ⟨w0.heap.size + 1, 0, none⟩) R R, .slice (some ⟨w0.heap.size, 0, none⟩) A A, .int .i64 0]
  rw [World.size_alloc] at b2
  rw [World.size_alloc, World.size_alloc] at b3
  refine ⟨⟨⟨0, ?_⟩, b2.alloc _, (b1.alloc _).alloc _, by omega⟩, ((((Below.refl _ w0).alloc (Nat.le_refl _) _).alloc (by simp) _).alloc (by simp; omega) _)⟩
  rw [List.length_replicate, List.length_replicate]
  exact b3
set_option maxRecDepth 20000 in
set_option maxHeartbeats 4000000 in
theorem bm_new_any (n : Nat) (h1 : 1 ≤ n) (hn : n ≤ 65536) (w : World) : Calls Tryd.prog 27 #[.int .i64 (n : Int)] w fun e w' =>
    ∃ M gw ga, e = .returned (.tuple #[.pointer (some ⟨M, 0, none⟩), .int .i64 0]) ∧ Bm w' M gw ga n (List.replicate ((n + 63) / 64) 0) (List.replicate (((n + 63) / 64 + 63) / 64) 0) ∧ Below w.heap.size w w' ∧ w.heap.size ≤ M ∧ w.heap.size ≤ gw ∧ w.heap.size ≤ ga := by
  obtain ⟨R, hR⟩ : ∃ R, R = (n + 63) / 64 := ⟨_, rfl⟩
  obtain ⟨A, hA⟩ : ∃ A, A = (R + 63) / 64 := ⟨_, rfl⟩
  have R1 := Lib.hid (room_any n R hR hn)
  have R2 := Lib.hid (room_any R A hA (by omega))
  have mk1 := mk_words R (by omega)
  have mk2 := mk_words A (by omega)
  rw [← hR, ← hA]
  have a1 : ¬ (n : Int) < 1 := by omega
  have a2 : ¬ (65536 : Int) < (n : Int) := by omega
  have HR := Lib.hid hR
  have HA := Lib.hid hA
  clear hR hA
  go_enter Tryd.func27, Tryd.ntmps27
  go_wp2_with (first | (go_at_call 32; (with_reducible refine (R1.out _).mono ?_); rintro e w' ⟨rfl, rfl⟩))
  go_region_held3 (fun w' => True) (first | trivial) (first | (go_at_call 32; (with_reducible refine (R2.out _).mono ?_); rintro e w' ⟨rfl, rfl⟩))
  all_goals
    go_wp2
    go_ret2
    first
      | exact ⟨_, _, _, rfl, (bm_laid w n R A).1.chg ((Chg.refl (fun _ _ => False) _).drewN 1) (fun _ h => h) (fun _ h => h) (fun _ h => h), (bm_laid w n R A).2.drew, by show w.heap.size ≤ w.heap.size + 1 + 1; omega, by show w.heap.size ≤ w.heap.size; omega, by show w.heap.size ≤ w.heap.size + 1; omega⟩
      | exact ⟨_, _, _, rfl, (bm_laid2 w n R A).1.chg ((Chg.refl (fun _ _ => False) _).drewN 1) (fun _ h => h) (fun _ h => h) (fun _ h => h), (bm_laid2 w n R A).2.drew, by show w.heap.size ≤ w.heap.size + 1 + 1; omega, by show w.heap.size ≤ w.heap.size + 1; omega, by show w.heap.size ≤ w.heap.size; omega⟩
theorem layV_lt {a k x : Nat} (h : a < 18446744073709551616) : layV a k x < 18446744073709551616 := by
  unfold layV
  split
  · exact Nat.lt_of_le_of_lt Nat.and_le_left h
  · exact Nat.or_lt_two_pow (n := 64) h (Nat.pow_lt_pow_right (m := k % 64) (n := 64) (a := 2) (by omega) (by omega))
theorem mem_set_lt {l : List Nat} {i x B : Nat} (h : ∀ y ∈ l, y < B) (hx : x < B) : ∀ y ∈ l.set i x, y < B := fun y hy => by
  rcases List.mem_or_eq_of_mem_set hy with h1 | h1
  · exact h y h1
  · rw [h1]; exact hx
theorem fill_set {ws : List Nat} {k x : Nat} (hx : ws[k]? = some x) : (ws.take k ++ List.replicate (ws.length - k) 0).set k x = ws.take (k + 1) ++ List.replicate (ws.length - (k + 1)) 0 := by
  have hk := (List.getElem?_eq_some_iff.1 hx).1
  have hl : (ws.take k).length = k := by rw [List.length_take]; omega
  rw [List.set_append, if_neg (by omega), hl, Nat.sub_self, show ws.length - k = (ws.length - (k + 1)) + 1 by omega, List.replicate_succ, List.set_cons_zero, List.take_add_one, hx]
  simp
set_option maxRecDepth 20000 in
set_option maxHeartbeats 4000000 in
theorem bm_from_any (n : Nat) (h1 : 1 ≤ n) (hn : n ≤ 65536) (A : Option Addr) (c : Nat) (ws : List Nat) (hl : ws.length ≤ 9223372036854775807) (hb : ∀ x ∈ ws, x < 18446744073709551616) (w : World) (hr : Rd encU w A ws) :
    Calls Tryd.prog 21 #[.int .i64 (n : Int), .slice A ws.length c] w fun e w' =>
      (vldE n ws ≠ 0 ∧ e = .returned (.tuple #[.pointer none, .int .i64 (vldE n ws)]) ∧ Below w.heap.size w w') ∨
      (okW n ws ∧ ∃ M gw ga us, e = .returned (.tuple #[.pointer (some ⟨M, 0, none⟩), .int .i64 0]) ∧ Bm w' M gw ga n ws us ∧ Above ws us ∧ (∀ x ∈ us, x < 18446744073709551616) ∧ us.length = (ws.length + 63) / 64 ∧ Below w.heap.size w w' ∧ w.heap.size ≤ M ∧ w.heap.size ≤ gw ∧ w.heap.size ≤ ga) := by
  have NW := Lib.hid (bm_new_any n h1 hn w)
  obtain ⟨v, hv⟩ : ∃ v, v = vldE n ws := ⟨_, rfl⟩
  have VA := Lib.hid (fun w' (h : Rd encU w' A ws) => valid_any n h1 hn A c ws hl hb w' h)
  rw [← hv] at VA ⊢
  have HR := Lib.hid hr
  by_cases h0 : v = 0
  · have ok := (vld_ok hb).1 (by rw [← hv]; exact h0)
    have hlen := ok.1
    obtain ⟨L, hL⟩ : ∃ L, L = ws.length := ⟨_, rfl⟩
    have hLb : L ≤ 1024 := by omega
    subst h0
    have OK := Lib.hid ok
    have HL := Lib.hid hL
    have HB := Lib.hid hb
    rw [← hL] at VA ⊢
    rw [← hlen, ← hL] at NW
    clear hv hr hb hlen hL hl ok
    go_enter Tryd.func21, Tryd.ntmps21
    go_wp2_with (first | (go_at_call 27; (with_reducible refine NW.out.mono ?_); rintro e w1 ⟨M, gw, ga, rfl, b1, B1, k1, k2, k3⟩; have HM := Lib.hid b1; have HB1 := Lib.hid B1; have V1 := Lib.hid (VA.out _ (HR.out.below B1)); clear b1 B1) | (go_at_call 28; (with_reducible refine V1.out.mono ?_); rintro e w2 ⟨rfl, rfl⟩))
    go_loopw [26] (fun t26 wr => ∃ (k : Nat) (us : List Nat), k ≤ L ∧ t26 = .int .i64 (k : Int) ∧ Hid (Bm wr M gw ga n (ws.take k ++ List.replicate (L - k) 0) us) ∧ Hid (AboveTo ws us k ∧ us.length = (L + 63) / 64 ∧ ∀ x ∈ us, x < 18446744073709551616) ∧ Hid (Below w.heap.size w wr)) (fun t26 _ => L - (intOf t26).toNat)
    case atStart => exact ⟨0, _, Nat.zero_le _, rfl, Lib.hid (by simpa using HM.out), Lib.hid ⟨AboveTo.zero ws _, by simp, fun x hx => by rw [List.eq_of_mem_replicate hx]; omega⟩, HB1⟩
    case round =>
      obtain ⟨k, us, hk, rfl, hM, hU, hB⟩ := hrel
      clear HM HB1 V1
      by_cases hlk : k < L
      · have hlk' : (k : Int) < (L : Int) := by omega
        obtain ⟨ad, x, hA, hx, hc⟩ := (HR.out.below hB.out).at_ (show k < ws.length by rw [← HL.out]; exact hlk)
        subst hA
        have hxb := HB.out x (List.mem_of_getElem? hx)
        have hUl := hU.out.2.1
        have hul : k / 64 < us.length := by omega
        have huv : us.getD (k / 64) 0 < 18446744073709551616 := by
          rw [List.getD_eq_getElem?_getD]
          cases hq : us[k / 64]? with
          | none => simp
          | some y => exact hU.out.2.2 y (List.mem_of_getElem? hq)
        have hfl : (ws.take k ++ List.replicate (L - k) 0).length = L := by rw [List.length_append, List.length_take, List.length_replicate, ← HL.out]; omega
        have LA := Lib.hid (lay_any k x hM.out (by rw [hfl]; exact hlk) hul hxb huv (by rw [hfl]; omega))
        have HF := Lib.hid (show (ws.take k ++ List.replicate (L - k) 0).set k x = ws.take (k + 1) ++ List.replicate (L - (k + 1)) 0 by rw [HL.out]; exact fill_set hx)
        have hxd : ws.getD k 0 = x := by rw [List.getD_eq_getElem?_getD, hx]; rfl
        have HU2 := Lib.hid (show AboveTo ws (us.set (k / 64) (layV (us.getD (k / 64) 0) k x)) (k + 1) ∧ (us.set (k / 64) (layV (us.getD (k / 64) 0) k x)).length = (L + 63) / 64 ∧ ∀ y ∈ us.set (k / 64) (layV (us.getD (k / 64) 0) k x), y < 18446744073709551616 from by
          refine ⟨?_, by rw [List.length_set]; exact hUl, mem_set_lt hU.out.2.2 (layV_lt huv)⟩
          unfold layV
          by_cases hx0 : x = 0
          · rw [if_pos hx0]; exact hU.out.1.clear_ (by omega) hU.out.2.2 (by rw [hxd, hx0])
          · rw [if_neg hx0]; exact hU.out.1.set_ (by omega) (by rw [hxd]; exact hx0))
        clear hx hxd hUl hul huv hfl hxb
        go_wp2_with (first | (go_at_call 29; (with_reducible refine LA.out.mono ?_); rintro e w3 ⟨rfl, b3, c3⟩; have HM3 := Lib.hid b3; have HC3 := Lib.hid c3; clear b3 c3))
        rw [HF.out] at HM3
        have B3 := Lib.hid (hB.out.trans (HC3.out.below hB.out.size fun j i hj hle => by omega))
        go_roundw
        case rel => exact ⟨k + 1, _, by omega, by go_num, HM3, HU2, B3⟩
        case measure => simp [intOf]; omega
      · obtain rfl : k = L := by omega
        have e1 : ws.take k ++ List.replicate (k - k) 0 = ws := by rw [Nat.sub_self, List.replicate_zero, List.append_nil, List.take_of_length_le (by rw [← HL.out]; exact Nat.le_refl _)]
        rw [e1] at hM
        have hA2 := hU.out.1
        rw [HL.out] at hA2
        have HAb := Lib.hid hA2.all
        clear e1 hA2
        go_wp2
        go_ret2
        exact .inr ⟨OK.out, M, gw, ga, us, rfl, hM.out, HAb.out, hU.out.2.2, hU.out.2.1, hB.out, k1, k2, k3⟩
  · have h0i : (v != 0) = true := by rw [bne_iff_ne]; exact h0
    clear hv hr hb hl
    obtain ⟨L, hL⟩ : ∃ L, L = ws.length := ⟨_, rfl⟩
    rw [← hL] at VA ⊢
    clear hL
    go_enter Tryd.func21, Tryd.ntmps21
    go_wp2_with (first | (go_at_call 27; (with_reducible refine NW.out.mono ?_); rintro e w1 ⟨M, gw, ga, rfl, b1, B1, k1, k2, k3⟩; have HB1 := Lib.hid B1; have V1 := Lib.hid (VA.out _ (HR.out.below B1)); clear b1 B1) | (go_at_call 28; (with_reducible refine V1.out.mono ?_); rintro e w2 ⟨rfl, rfl⟩))
    go_ret2
    exact .inl ⟨h0, rfl, HB1.out⟩
end
end Go.Proofs.YtdhccjmokmdboaaDoor
