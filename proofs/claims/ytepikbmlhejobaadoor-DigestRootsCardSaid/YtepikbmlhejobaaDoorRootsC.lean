/- Powers, roots, primes: by contract. -/
import Derived.Test.YtepikbmlhejobaaDoorRootsB
import Derived.Test.YtepikbmlhejobaaDoorShaPub
import Derived.Test.YtepikbmlhejobaaDoorRefSum
namespace Go.Proofs.YtepikbmlhejobaaDoor
open Go.RowKit
set_option linter.unusedSimpArgs false
theorem times_n (ga gb ca cb la lb n : Nat) (a b : List Nat) (w : World) (hla : a.length = la) (hlb : b.length = lb) (hs : la + lb = n) (hn : n ≤ 100) (da : Digs a) (db : Digs b) (ba : Blk w ga 3 (arr encN a)) (bb : Blk w gb 3 (arr encN b)) :
    Calls Tryd.prog 53 #[.slice (some ⟨ga, 0, none⟩) la ca, .slice (some ⟨gb, 0, none⟩) lb cb] w fun e w' => ∃ c : List Nat, e = .returned (.slice (some ⟨w.heap.size, 0, none⟩) n n) ∧ c.length = n ∧ Digs c ∧ valL c = valL a * valL b ∧ Blk w' w.heap.size 3 (arr encN c) ∧ Below w.heap.size w w' := by
  subst hs; exact times_any ga gb ca cb la lb a b w hla hlb hn da db ba bb
theorem power_any (x k : Nat) (hx : x < 281474976710656) (hk : k = 2 ∨ k = 3) (w : World) :
    Calls Tryd.prog 49 #[.int .i64 (x : Int), .int .i64 (k : Int)] w fun e w' => ∃ (g n : Nat) (c : List Nat), e = .returned (.slice (some ⟨g, 0, none⟩) n n) ∧ c.length = n ∧ n ≤ 9 ∧ Digs c ∧ valL c = x ^ k ∧ Blk w' g 3 (arr encN c) ∧ Below w.heap.size w w' := by
  have g0 := Lib.hid (limbs_any x hx w)
  have DL := Lib.hid (digs_limbs hx)
  have VL := Lib.hid (show valL (limbsL x) = x from valL_limbs x)
  have LL := Lib.hid (show (limbsL x).length = 3 from rfl)
  generalize limbsL x = L at *
  clear hx
  go_enter Tryd.func49, Tryd.ntmps49
  go_wp2_with fail
  refine g0.out.mono ?_
  rintro e w1 ⟨rfl, b1, hB1⟩
  obtain ⟨H, hH⟩ : ∃ H, H = w.heap.size := ⟨_, rfl⟩
  rw [← hH] at b1 ⊢
  have HH := Lib.hid hH
  have B1 := Lib.hid hB1
  have BL := Lib.hid b1
  have g1 := Lib.hid (times_n H H 3 3 3 3 6 L L w1 LL.out LL.out rfl (by omega) DL.out DL.out b1 b1)
  clear g0 hB1 b1 hH
  go_wp2_with fail
  refine g1.out.mono ?_
  rintro e w2 ⟨c2, rfl, hl2, hd2, hv2, b2, hB2⟩
  obtain ⟨G, hG⟩ : ∃ G, G = w1.heap.size := ⟨_, rfl⟩
  rw [← hG] at b2 ⊢
  have BL2 := Lib.hid (BL.out.below hB2 BL.out.lt)
  have B2 := Lib.hid (B1.out.trans (hB2.mono B1.out.size))
  have HD2 := Lib.hid hd2
  have HV2 := Lib.hid hv2
  have HL2 := Lib.hid hl2
  have Bb2 := Lib.hid b2
  clear g1 hG hB2 hd2 hv2 hl2 b2 BL B1
  rcases hk with rfl | rfl
  · go_wp2
    go_ret
    exact ⟨G, 6, c2, rfl, HL2.out, by omega, HD2.out, by rw [HV2.out, VL.out, Nat.pow_two], Bb2.out, by rw [← HH.out]; rw [HH.out]; exact B2.out⟩
  · have g2 := Lib.hid (times_n G H 6 3 6 3 9 c2 L w2 HL2.out LL.out rfl (by omega) HD2.out DL.out Bb2.out BL2.out)
    go_wp2_with fail
    refine g2.out.mono ?_
    rintro e w3 ⟨c3, rfl, hl3, hd3, hv3, b3, hB3⟩
    have B3 := B2.out.trans (hB3.mono B2.out.size)
    obtain ⟨G3, hG3⟩ : ∃ G, G = w2.heap.size := ⟨_, rfl⟩
    rw [← hG3] at b3 ⊢
    clear g2 hG3 hB3
    have HV3 := Lib.hid hv3
    clear hv3
    go_wp2
    go_ret
    exact ⟨G3, 9, c3, rfl, hl3, by omega, hd3, by rw [HV3.out, HV2.out, VL.out, Nat.pow_succ, Nat.pow_two], b3, B3⟩
theorem pow2_lt {s : Nat} (h : s < 40) : 2 ^ (39 - s) < 1099511627776 := by
  have : 2 ^ (39 - s) ≤ 2 ^ 39 := Nat.pow_le_pow_right (by omega) (by omega)
  omega
set_option maxHeartbeats 4000000 in
theorem root_any (p k : Nat) (hp : p < 65536) (hk : k = 2 ∨ k = 3) (w : World) :
    Calls Tryd.prog 41 #[.int .i64 (p : Int), .int .i64 (k : Int)] w fun e w' => e = .returned (enc32 (UInt32.ofNat (rootTo p k 40))) ∧ Below w.heap.size w w' := by
  obtain ⟨N, hN⟩ : ∃ N, N = 2 * k := ⟨_, rfl⟩
  have hNi : (2 : Int) * (k : Int) = (N : Int) := by omega
  have wN : IntKind.i64.wrap (N : Int) = (N : Int) := i64_in_ _ (by omega)
  have mk := mk_ints N (by omega)
  obtain ⟨M, hM⟩ : ∃ M, M = List.replicate N 0 ++ [p] := ⟨_, rfl⟩
  have HM := Lib.hid hM
  have ML := Lib.hid (show M.length = N + 1 by rw [hM]; simp)
  have MV := Lib.hid (show valL M = p * 2 ^ (32 * k) by rw [hM, hN]; exact valL_most k p)
  have MD := Lib.hid (show Digs M from fun i => by
    rw [hM]
    unfold dg
    rw [List.getD_eq_getElem?_getD]
    rcases Nat.lt_or_ge i N with h1 | h1
    · rw [List.getElem?_append_left (by simpa using h1), List.getElem?_replicate, if_pos h1]; simp
    · rw [List.getElem?_append_right (by simpa using h1), List.length_replicate]
      rcases Nat.eq_zero_or_pos (i - N) with h2 | h2
      · rw [h2]; simpa using hp
      · rw [List.getElem?_eq_none (by simp; omega)]; simp)
  have hN6 : N ≤ 6 := by omega
  have b0 := Blk.new w 3 (arr encN (List.replicate N 0))
  have o0 : Own encN 3 (w.alloc (.cells (arr encN (List.replicate N 0)) 3)) w.heap.size (.slice (some ⟨w.heap.size, 0, none⟩) N N) (List.replicate N 0) := by
    have := Own.of_blk (enc := encN) (l := List.replicate N 0) (base := w.heap.size) (cap := N) b0 (Nat.le_refl _) (by simp) (by unfold maxLen; omega) (by rw [arr_size, List.length_replicate]) (by rw [arr_list]; simp)
    rwa [List.length_replicate] at this
  have B0 := (Below.refl w.heap.size w).alloc (Nat.le_refl _) (.cells (arr encN (List.replicate N 0)) 3)
  have O0 := Lib.hid o0
  have HB0 := Lib.hid B0
  have HK := Lib.hid hk
  clear hM hN hk b0 o0 B0
  go_enter Tryd.func41, Tryd.ntmps41
  go_wp2_with (at_builtin; refine wpList_appendO _ iTy encN_one rfl (.tmp 12) (.tmp 14) rfl w.heap.size _ (List.replicate N 0) [p] rfl (O0.out.alloc _) (some ⟨w.heap.size + 1, 0, none⟩) 1 rfl ?hr (by simp [maxLen]; omega) (by simp; omega) (by simp; omega) ?_; (case hr => (have := Rd.one encN (w.alloc (.cells (arr encN (List.replicate N 0)) 3)) 3 p; rw [World.size_alloc] at this; exact this)); intro v1 w1 o1 hg1 hloc1)
  rw [← HM.out] at o1
  have B1 := below_own (HB0.out.alloc (by simp) _) (O0.out.alloc _) (Nat.le_refl _) hg1 (by simp; omega)
  obtain ⟨A5, c5, hv1, _, r1, _⟩ := o1.slice
  rw [ML.out] at hv1
  subst hv1
  clear o1 hg1 hloc1 mk wN hNi
  go_wp2_with fail
  go_loopw [6, 7] (fun t6 t7 wr => ∃ s : Nat, s ≤ 40 ∧ t7 = .int .i64 (39 - (s : Int)) ∧ t6 = .int .i64 ((rootTo p k s : Nat) : Int) ∧ Rd encN wr A5 M ∧ Below w.heap.size w wr) (fun _ t7 _ => (intOf t7 + 1).toNat)
  case atStart => exact ⟨0, by omega, rfl, rfl, r1, B1⟩
  case round =>
    obtain ⟨s, hs, rfl, rfl, hr, hB⟩ := hrel
    clear r1 B1
    by_cases hlt : s < 40
    · have hle := rootTo_le p k s hs
      have hst : rootTo p k (s + 1) = if p * 2 ^ (32 * k) < (rootTo p k s + 2 ^ (39 - s)) ^ k then rootTo p k s else rootTo p k s + 2 ^ (39 - s) := rfl
      have hq0 := pow2_lt hlt
      obtain ⟨q, hq⟩ : ∃ q, q = 2 ^ (39 - s) := ⟨_, rfl⟩
      have hqp : 0 < q := by rw [hq]; exact Nat.two_pow_pos _
      have hqe : (2 : Int) ^ (39 - s) = (q : Int) := by rw [hq]; simp
      have hq2 : 2 ^ (40 - s) = q + q := by rw [hq, show 40 - s = (39 - s) + 1 by omega, Nat.pow_succ]; omega
      rw [hq2] at hle
      rw [← hq] at hst hq0
      obtain ⟨X, hX⟩ : ∃ X, X = rootTo p k s := ⟨_, rfl⟩
      rw [← hX] at hst hle ⊢
      obtain ⟨y, hy⟩ : ∃ y, y = X + q := ⟨_, rfl⟩
      have hyi : (X : Int) + (q : Int) = (y : Int) := by omega
      rw [← hy] at hst
      have hyb : y < 1099511627776 := by omega
      have HST := Lib.hid hst
      have n39 : (39 - (s : Int)).toNat = 39 - s := by omega
      have i39 : (0 : Int) ≤ 39 - (s : Int) ∧ 39 - (s : Int) < 64 := by omega
      have wq : IntKind.i64.wrap (q : Int) = (q : Int) := i64_in_ _ (by omega)
      have wy : IntKind.i64.wrap (y : Int) = (y : Int) := i64_in_ _ (by omega)
      have g1 := Lib.hid (power_any y k (by omega) HK.out wr)
      have HR := Lib.hid hr
      have HB := Lib.hid hB
      clear hst hq hq2 hX hy hr hB hle
      go_wp2_with fail
      refine g1.out.mono ?_
      rintro e w2 ⟨g, n, c, rfl, hcl, hcn, hcd, hcv, bc, hB2⟩
      have r2 := HR.out.below hB2
      have B2 := Lib.hid (HB.out.trans (hB2.mono HB.out.size))
      have g2 := above_any (some ⟨g, 0, none⟩) A5 n c5 n (N + 1) c M w2 hcl ML.out (by omega) (by omega) hcd MD.out (rd_blkN bc) r2
      rw [MV.out, hcv] at g2
      have G2 := Lib.hid g2
      have R2 := Lib.hid r2
      clear g1 hcl hcd hcv bc hB2 g2 r2
      by_cases hgt : p * 2 ^ (32 * k) < y ^ k
      · rw [decide_eq_true hgt] at G2
        have hst := Lib.hid (HST.out.trans (if_pos hgt))
        clear hgt
        go_wp2_with fail
        refine G2.out.mono ?_
        rintro e w3 ⟨rfl, rfl⟩
        go_wp2
        go_roundw
        case rel => exact ⟨s + 1, by omega, by go_num, by rw [hst.out], R2.out, B2.out⟩
        case measure => simp [intOf]; omega
      · rw [decide_eq_false hgt] at G2
        have hst := Lib.hid (HST.out.trans (if_neg hgt))
        clear hgt
        go_wp2_with fail
        refine G2.out.mono ?_
        rintro e w3 ⟨rfl, rfl⟩
        go_wp2
        go_roundw
        case rel => exact ⟨s + 1, by omega, by go_num, by rw [hst.out], R2.out, B2.out⟩
        case measure => simp [intOf]; omega
    · obtain rfl : s = 40 := by omega
      have hle := rootTo_le p k 40 (Nat.le_refl _)
      obtain ⟨X, hX⟩ : ∃ X, X = rootTo p k 40 := ⟨_, rfl⟩
      rw [← hX] at hle ⊢
      have HX := Lib.hid hX
      clear hX
      go_wp2
      go_ret
      refine ⟨?_, hB⟩
      rw [← HX.out]
      show Ending.returned (Value.int .u32 ((X : Int) % 4294967296)) = Ending.returned (enc32 (UInt32.ofNat X))
      have e : v32 (UInt32.ofNat X) = (X : Int) % 4294967296 := by unfold v32; rw [UInt32.toNat_ofNat']; omega
      rw [← e]
end Go.Proofs.YtepikbmlhejobaaDoor
