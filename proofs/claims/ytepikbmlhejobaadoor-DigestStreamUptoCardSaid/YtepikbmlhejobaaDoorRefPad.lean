/- The reference: turn, padded. -/
import Derived.Test.YtepikbmlhejobaaDoorShaPub
namespace Go.Proofs.YtepikbmlhejobaaDoor
open Go.RowKit
def slLen : Value → Nat
  | .slice _ n _ => n
  | _ => 0
set_option maxHeartbeats 2000000 in
theorem padded_any (A : Option Addr) (c n : Nat) (l : List UInt8) (w : World) (hn : l.length = n) (hb : n ≤ 140737488355200) (h : Rd encB w A l) :
    Calls Tryd.prog 45 #[.slice A n c] w fun e w' => ∃ v, e = .returned v ∧ Own encB 5 w' w.heap.size v (paddedL l) ∧ Below w.heap.size w w' := by
  subst hn
  have hz : zerosOf l.length ≤ 63 := by unfold zerosOf; omega
  have hz2 : (l.length + 1 + zerosOf l.length) % 64 = 56 := by unfold zerosOf; omega
  have hz3 : ∀ j, j < zerosOf l.length → (l.length + 1 + j) % 64 ≠ 56 := fun j hj => by unfold zerosOf at hj; omega
  obtain ⟨Z, hZ⟩ : ∃ Z, Z = zerosOf l.length := ⟨_, rfl⟩
  rw [← hZ] at hz hz2 hz3
  have HZ := Lib.hid hZ
  have HZ2 := Lib.hid hz2
  have HZ3 := Lib.hid hz3
  have hb' : l.length + 73 ≤ 140737488355328 := by omega
  have HB' := Lib.hid hb'
  clear hZ hz2 hz3 hb'
  go_enter Tryd.func45, Tryd.ntmps45
  go_wp2_with (first
    | (at_builtin; refine wpList_appendO _ bTy encB_one rfl (.tmp 6) (.tmp 7) rfl w.heap.size _ [] l rfl (Own.made encB 5 w (Nat.le_refl _)) A c rfl (h.alloc _) (by simp [maxLen]; omega) (by simp; omega) (by simp) ?_; intro v1 w1 o1 hg1 hloc1; have hb1 := Lib.hid (below_own ((Below.refl _ w).alloc (Nat.le_refl _) _) (Own.made encB 5 w (Nat.le_refl _)) (Nat.le_refl _) hg1 (by simp)); rw [List.nil_append] at o1; clear hg1 hloc1)
    | (at_builtin; refine wpList_appendO _ bTy encB_one rfl (.tmp 9) (.tmp 10) rfl w.heap.size _ l [128] rfl (o1.alloc _) (some ⟨w1.heap.size, 0, none⟩) 1 rfl (Rd.one encB w1 5 128) (by have := HB'.out; simp [maxLen]; omega) (by have := HB'.out; simp; omega) (by have := hb1.out.size; simp; omega) ?_; intro v2 w2 o2 hg2 hloc2; have hb2 := Lib.hid (below_own (hb1.out.alloc hb1.out.size _) (o1.alloc _) (Nat.le_refl _) hg2 (by have := hb1.out.size; simp; omega)); clear hg2 hloc2))
  obtain ⟨A2, c2, hv2, hc2, _, _⟩ := o2.slice
  have hl2 : (l ++ [128]).length = l.length + 1 := by rw [List.length_append]; rfl
  rw [hl2] at hv2
  subst hv2
  clear hc2 o1 hb1
  go_loopw [3] (fun v wr => ∃ (A' : Option Addr) (c' j : Nat), j ≤ Z ∧ v = .slice A' (l.length + 1 + j) c' ∧ Own encB 5 wr w.heap.size (.slice A' (l.length + 1 + j) c') (l ++ [128] ++ List.replicate j 0) ∧ Below w.heap.size w wr) (fun v _ => l.length + 1 + Z - slLen v)
  case atStart => exact ⟨A2, c2, 0, by omega, rfl, by simpa using o2, hb2.out⟩
  case round =>
    obtain ⟨A3, c3, j, hj, rfl, ok, hB⟩ := hrel
    clear o2 hb2
    have hlj : (l ++ [128] ++ List.replicate j 0).length = l.length + 1 + j := by simp; omega
    obtain ⟨s, hs⟩ : ∃ s, s = l.length + 1 + j := ⟨_, rfl⟩
    rw [← hs] at ok hlj ⊢
    have hsb : s ≤ 140737488355200 + 64 := by omega
    by_cases hlt : j < Z
    · have ht : ((s : Int) % 64 != 56) = true := by rw [bne_iff_ne]; have := HZ3.out j hlt; omega
      have Hs := Lib.hid hs
      have HLJ := Lib.hid hlj
      clear hs hlj
      go_wp2_with (at_builtin; refine wpList_appendO _ bTy encB_one rfl (.tmp 16) (.tmp 17) rfl w.heap.size _ (l ++ [128] ++ List.replicate j 0) [0] rfl (ok.alloc _) (some ⟨wr.heap.size, 0, none⟩) 1 rfl (Rd.one encB wr 5 0) (by rw [HLJ.out]; simp only [maxLen, List.length_singleton]; omega) (by rw [HLJ.out]; simp only [List.length_singleton]; omega) (by have := hB.size; simp; omega) ?_; intro v3 w3 o3 hg3 hloc3)
      have B3 := below_own (hB.alloc hB.size _) (ok.alloc _) (Nat.le_refl _) hg3 (by have := hB.size; simp; omega)
      have e3 : l ++ [128] ++ List.replicate j 0 ++ [0] = l ++ [128] ++ List.replicate (j + 1) 0 := by rw [List.append_assoc, ← List.replicate_succ']
      rw [e3] at o3
      obtain ⟨A4, c4, hv4, _, _, _⟩ := o3.slice
      have hl4 : (l ++ [128] ++ List.replicate (j + 1) 0).length = l.length + 1 + (j + 1) := by simp; omega
      rw [hl4] at hv4
      subst hv4
      go_roundw
      case rel => exact ⟨A4, c4, j + 1, by omega, rfl, o3, B3⟩
      case measure => simp only [slLen]; have := Hs.out; omega
    · obtain rfl : j = Z := by omega
      have ht : ((s : Int) % 64 != 56) = false := by rw [bne_eq_false_iff_eq]; have := HZ2.out; omega
      have Hs := Lib.hid hs
      have HLJ := Lib.hid hlj
      clear hs hlj
      go_wp2_with fail
      obtain ⟨M, hM⟩ : ∃ M, M = l ++ [128] ++ List.replicate j 0 := ⟨_, rfl⟩
      rw [← hM] at ok
      have HLM := Lib.hid (show M.length = s by rw [hM]; exact HLJ.out)
      have HME := Lib.hid hM
      clear hM HLJ ht
      go_loopw [3, 5] (fun v i wr => ∃ (A' : Option Addr) (c' q : Nat), q ≤ 8 ∧ i = .int .i64 (56 - 8 * (q : Int)) ∧ v = .slice A' (s + q) c' ∧ Own encB 5 wr w.heap.size (.slice A' (s + q) c') (M ++ (be64 (8 * l.length)).take q) ∧ Below w.heap.size w wr) (fun v _ _ => s + 8 - slLen v)
      case atStart => exact ⟨A3, c3, 0, by omega, rfl, rfl, by simpa using ok, hB⟩
      case round =>
        obtain ⟨A5, c5, q, hq, rfl, rfl, ok2, hB2⟩ := hrel
        clear ok hB
        by_cases hlt : q < 8
        · have hq1 : (0 : Int) ≤ 56 - 8 * (q : Int) := by omega
          obtain ⟨b, hbq⟩ : ∃ b, b = UInt8.ofNat (8 * l.length / 2 ^ (56 - 8 * q)) := ⟨_, rfl⟩
          have hbyte : (l.length : Int) * 8 / 2 ^ (56 - 8 * q) % 256 = vB b := by
            rw [hbq, ← byte_of_div (8 * l.length) (56 - 8 * q)]
            congr 2
            omega
          have hbe : (be64 (8 * l.length))[q]? = some b := by rw [hbq]; simp [be64, hlt]
          have HBE := Lib.hid hbe
          have hlm : (M ++ (be64 (8 * l.length)).take q).length = s + q := by rw [List.length_append, HLM.out, List.length_take, be64_len]; omega
          have HL := Lib.hid hlm
          clear hbq hbe hlm
          go_wp2_with (at_builtin; refine wpList_appendO _ bTy encB_one rfl (.tmp 27) (.tmp 33) rfl w.heap.size _ (M ++ (be64 (8 * l.length)).take q) [b] rfl (ok2.alloc _) (some ⟨wr.heap.size, 0, none⟩) 1 rfl (Rd.one encB wr 5 b) (by rw [HL.out]; simp only [maxLen, List.length_singleton]; omega) (by rw [HL.out]; simp only [List.length_singleton]; omega) (by have := hB2.size; simp; omega) ?_; intro v3 w3 o3 hg3 hloc3)
          have B3 := below_own (hB2.alloc hB2.size _) (ok2.alloc _) (Nat.le_refl _) hg3 (by have := hB2.size; simp; omega)
          rw [List.append_assoc, ← take_snoc_ HBE.out] at o3
          obtain ⟨A6, c6, hv6, _, _, _⟩ := o3.slice
          have hl6 : (M ++ (be64 (8 * l.length)).take (q + 1)).length = s + (q + 1) := by rw [List.length_append, HLM.out, List.length_take, be64_len]; omega
          rw [hl6] at hv6
          subst hv6
          go_roundw
          case rel => exact ⟨A6, c6, q + 1, by omega, by go_num, rfl, o3, B3⟩
          case measure => simp only [slLen]; omega
        · obtain rfl : q = 8 := by omega
          have hq1 : ¬ (0 : Int) ≤ 56 - 8 * ((8 : Nat) : Int) := by omega
          go_wp2_with fail
          go_ret
          refine ⟨_, rfl, ?_, hB2⟩
          have e : paddedL l = M ++ (be64 (8 * l.length)).take 8 := by
            rw [HME.out, HZ.out, List.take_of_length_le (by rw [be64_len]; omega)]
            rfl
          rw [e]
          exact ok2
end Go.Proofs.YtepikbmlhejobaaDoor
