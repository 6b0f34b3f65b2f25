/- The first 64 primes, by contract. -/
import Derived.Test.YtepikbmlhejobaaDoorRootsC
namespace Go.Proofs.YtepikbmlhejobaaDoor
open Go.RowKit
set_option linter.unusedSimpArgs false
theorem plist_le {t : Nat} (h : t ≤ 310) : (plist t).length ≤ 64 := by
  have h1 := plist_mono t (310 - t)
  rw [show t + (310 - t) = 310 by omega] at h1
  have h2 := primes64_len
  unfold primes64 at h2
  omega
theorem all_snoc {l : List Nat} {i x : Nat} (f : Nat → Bool) (h : l[i]? = some x) : (l.take (i + 1)).all f = ((l.take i).all f && f x) := by rw [take_snoc_ h, List.all_append]; simp
set_option maxHeartbeats 4000000 in
theorem primes_any (w : World) :
    Calls Tryd.prog 40 #[.int .i64 64] w fun e w' => ∃ (A : Option Addr) (c : Nat), e = .returned (.slice A 64 c) ∧ Rd encN w' A primes64 ∧ Below w.heap.size w w' := by
  go_enter Tryd.func40, Tryd.ntmps40
  go_wp2_with fail
  go_loopw [3, 4] (fun t3 t4 wr => ∃ (t p L : Nat) (A : Option Addr) (c : Nat), t ≤ 310 ∧ Hid (p = t + 2) ∧ t4 = .int .i64 (p : Int) ∧ Hid (L = (plist t).length) ∧ t3 = .slice A L c ∧ Own encN 3 wr w.heap.size (.slice A L c) (plist t) ∧ Below w.heap.size w wr) (fun _ t4 _ => 312 - (intOf t4).toNat)
  case atStart => exact ⟨0, 2, 0, none, 0, by omega, Lib.hid rfl, rfl, Lib.hid rfl, rfl, Own.nil_ _ _ _ _, Below.refl _ _⟩
  case round =>
    obtain ⟨t, p, L, A, c, ht, hp, rfl, hL, rfl, ho, hB⟩ := hrel
    by_cases hlt : t < 310
    · have hL64 : L < 64 := by rw [hL.out]; exact plist_lt hlt
      have hlt' : (L : Int) < 64 := by omega
      have hp2 : p < 312 := by rw [hp.out]; omega
      go_wp2_with fail
      go_loop [5, 6] (fun t5 t6 => ∃ (i : Nat) (f : Bool), i ≤ L ∧ t6 = .int .i64 (i : Int) ∧ t5 = .bool f ∧ Hid (f = ((plist t).take i).all (fun q => p % q != 0))) (fun _ t6 => L - (intOf t6).toNat)
      case atStart => exact ⟨0, true, by omega, rfl, rfl, Lib.hid (by simp)⟩
      case round =>
        obtain ⟨i, f, hi, rfl, rfl, hf⟩ := hrel
        by_cases hli : i < L
        · have hli' : (i : Int) < (L : Int) := by omega
          obtain ⟨ad, q, hA, hx, hc⟩ := ho.rd.at_ (show i < (plist t).length by rw [← hL.out]; exact hli)
          subst hA
          have hq := plist_ge t q (List.mem_of_getElem? hx)
          have hsn := all_snoc (fun q => p % q != 0) hx
          rw [← hf.out] at hsn
          have HSN := Lib.hid hsn
          have hq0 : (q : Int) ≠ 0 := by omega
          have hq1 : ((q : Int) == 0) = false := by rw [beq_eq_false_iff_ne]; exact hq0
          have hq2 := hq.1
          clear hx hsn hq
          by_cases hd : p % q = 0
          · have hrem : Int.tmod (p : Int) (q : Int) = 0 := by rw [← Int.ofNat_tmod]; omega
            go_wp2
            go_round
            case rel => exact ⟨i + 1, false, by omega, by go_num, rfl, Lib.hid (by rw [HSN.out]; simp [hd])⟩
            case measure => simp [intOf]; omega
          · obtain ⟨r, hr⟩ : ∃ r, r = p % q := ⟨_, rfl⟩
            have hrem : Int.tmod (p : Int) (q : Int) = (r : Int) := by rw [← Int.ofNat_tmod, hr]
            have hrem2 : (p : Int) % (q : Int) = (r : Int) := by rw [hr]; simp
            have hr1 : ((r : Int) == 0) = false := by rw [beq_eq_false_iff_ne]; omega
            have HD := Lib.hid hd
            have HR := Lib.hid hr
            clear hr hd
            go_wp2
            go_round
            case rel => exact ⟨i + 1, f, by omega, by go_num, rfl, Lib.hid (by rw [HSN.out]; simp [HD.out])⟩
            case measure => simp [intOf]; omega
        · obtain rfl : i = L := by omega
          have hfa : f = (plist t).all (fun q => (t + 2) % q != 0) := by
            have h1 := hf.out
            rwa [List.take_of_length_le (by rw [hL.out]; exact Nat.le_refl _), hp.out] at h1
          cases f with
          | true =>
            have hn : plist (t + 1) = plist t ++ [p] := by rw [plist, if_pos hfa.symm, hp.out]
            have HN := Lib.hid hn
            clear hn hfa
            go_wp2_with (at_builtin; refine wpList_appendO _ iTy encN_one rfl (.tmp 27) (.tmp 29) rfl w.heap.size _ (plist t) [p] rfl (ho.alloc _) (some ⟨wr.heap.size, 0, none⟩) 1 rfl (Rd.one encN wr 3 p) (by rw [← hL.out]; simp [maxLen]; omega) (by rw [← hL.out]; simp; omega) (by have := hB.size; simp; omega) ?_; intro v1 w1 o1 hg1 hloc1)
            have B1 := below_own (hB.alloc hB.size _) (ho.alloc _) (Nat.le_refl _) hg1 (by have := hB.size; simp; omega)
            obtain ⟨A1, c1, hv1, _, _, _⟩ := o1.slice
            subst hv1
            rw [← HN.out] at o1
            go_roundw
            case rel => exact ⟨t + 1, p + 1, (plist (t + 1)).length, A1, c1, by omega, Lib.hid (by rw [hp.out]), by go_num, Lib.hid rfl, by rw [HN.out], o1, B1⟩
            case measure => simp [intOf]; omega
          | false =>
            have hn : plist (t + 1) = plist t := by rw [plist, if_neg (by rw [← hfa]; decide)]
            have HN := Lib.hid hn
            clear hn hfa
            go_wp2
            go_roundw
            case rel => exact ⟨t + 1, p + 1, i, A, c, by omega, Lib.hid (by rw [hp.out]), by go_num, Lib.hid (by rw [HN.out]; exact hL.out), rfl, by rw [HN.out]; exact ho, hB⟩
            case measure => simp [intOf]; omega
    · obtain rfl : t = 310 := by omega
      have hLe : L = 64 := hL.out.trans primes64_len
      subst hLe
      go_wp2
      go_ret
      exact ⟨A, c, rfl, ho.rd, hB⟩
end Go.Proofs.YtepikbmlhejobaaDoor
