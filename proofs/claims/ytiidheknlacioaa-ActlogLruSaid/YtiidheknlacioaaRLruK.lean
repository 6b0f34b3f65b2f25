/- The document's Lru (package replicaref04): Keys, by contract. -/
import Derived.Test.YtiidheknlacioaaRLruG
namespace Go.Proofs.Ytiidheknlacioaa
open Go.RowKit
set_option linter.unusedVariables false
set_option linter.unusedSimpArgs false
def encK (k : Int) : List Value := [.int .i64 k]
theorem encK_len (k : Int) : (encK k).length = 1 := rfl
theorem encK_one (k : Int) : ∀ v ∈ encK k, v.oneCell' = true := fun v hv => by obtain rfl := List.mem_singleton.1 hv; rfl
theorem iTy : SlTy Try.prog 22 3 1 8 := SlTy.mk' (z := .int .i64 0) Try.underlying22 (by kernel_rfl) rfl
theorem rKeysT_succ (cs : List Cel) (k : Nat) : rKeysT cs (k + 1) = rKeysT cs k ++ cs.filterMap (keyT ((k : Int) + 1)) := by
  unfold rKeysT
  rw [List.range_succ, List.flatMap_append, List.flatMap_singleton]
theorem rKeysT_len {s : LruS} {r : RLru} (h : RSim s r) (k : Nat) : (rKeysT r.cs k).length ≤ r.cs.length := by
  have e : rKeysT r.cs k = (s.idle.filter fun j => decide (givenAt r j ≤ (k : Int))).map fun i => (plcAt s i).1 := by
    unfold rKeysT
    have : (fun (q : Nat) => r.cs.filterMap (keyT (((q : Nat) : Int) + 1))) = fun (q : Nat) => (s.idle.filter fun j => decide (givenAt r j = ((q : Nat) : Int) + 1)).map fun i => (plcAt s i).1 := funext fun q => h.at_time _
    rw [this, ← List.map_flatMap, sorted_flat (givenAt r) h.ord fun j hj => (h.giv j hj).1]
  rw [e, List.length_map]
  refine Nat.le_trans (List.length_filter_le _ _) ?_
  have hsub : ∀ i ∈ s.idle, i < s.ps.length := fun i hi => by
    obtain ⟨k, hk⟩ := (h.ok.idle i).1 hi
    exact (List.getElem?_eq_some_iff.1 hk).1
  rw [h.len]
  have hn := h.ok.nodup
  have h2 : s.idle ⊆ List.range s.ps.length := fun i hi => List.mem_range.2 (hsub i hi)
  have := hn.length_le_of_subset h2
  rwa [List.length_range] at this
theorem filterMap_take {α β : Type} (f : α → Option β) {l : List α} {i : Nat} {x : α} (h : l[i]? = some x) : (l.take (i + 1)).filterMap f = (l.take i).filterMap f ++ (f x).toList := by
  rw [List.take_add_one, h, List.filterMap_append]
  cases hb : f x <;> simp [hb]
def RKeysP (w : World) (r : RLru) (e : Ending) (w' : World) : Prop := ∃ A' c', e = .returned (.slice A' (rKeys r).length c') ∧ GSl encK 1 3 w' A' c' (rKeys r) ∧ Below w.heap.size w w' ∧ ∀ j i, slFp 1 A' 0 c' j i → w.heap.size ≤ j
/-- a list under way -/
structure KUp (w wr : World) (A' : Option Addr) (c' : Nat) (Z : List Int) : Prop where
  row : GSl encK 1 3 wr A' c' Z
  bel : Below w.heap.size w wr
  far : ∀ j i, slFp 1 A' 0 c' j i → w.heap.size ≤ j
section
variable {w wr w2 w4 : World} {A' A4 : Option Addr} {c' c4 : Nat} {Z Z4 : List Int}
theorem KUp.none_ (w : World) : KUp w w none 0 [] := ⟨GSl.nil_, Below.refl _ _, fun j i ⟨_, e, _⟩ => by cases e⟩
theorem KUp.below (h : KUp w wr A' c' Z) (hB : Below wr.heap.size wr w2) : KUp w w2 A' c' Z :=
  ⟨h.row.chg (Chg.of_below (fun _ _ => False) hB) encK_len fun _ _ _ h => h, h.bel.trans ((Chg.of_below (fun _ _ => False) hB).below h.bel.size fun _ _ _ h => h), h.far⟩
theorem KUp.app (h : KUp w wr A' c' Z) (g4 : GSl encK 1 3 w4 A4 c4 Z4) (k4 : Chg (slFp 1 A' Z.length c') wr w4) (q4 : (A4 = A' ∧ c4 = c') ∨ ∃ g, A4 = some ⟨g, 0, none⟩ ∧ wr.heap.size ≤ g) : KUp w w4 A4 c4 Z4 := by
  refine ⟨g4, h.bel.trans (k4.below h.bel.size fun j i hj hs => by have := h.far j i (slFp_zero hs); omega), fun j i hj => ?_⟩
  rcases q4 with ⟨rfl, rfl⟩ | ⟨g', rfl, hg'⟩
  · exact h.far j i hj
  · obtain ⟨o', e, _⟩ := hj; cases e; have := h.bel.size; omega
end
section
variable {w w' : World} {G c : Nat} {s : LruS} {r : RLru} {A : Option Addr}
set_option maxRecDepth 20000 in
set_option maxHeartbeats 8000000 in
theorem rkeys_any (h : RIn w G r A c) (hl : r.cs.length ≤ 16) (hs : RSim s r) (hp : r.puts ≤ 4611686018427387904) : Calls Try.prog 70 #[.pointer (some ⟨G, 0, none⟩)] w (RKeysP w r) := by
  have H := Lib.hid h
  obtain ⟨L, hL⟩ : ∃ L, L = r.cs.length := ⟨_, rfl⟩
  rw [← hL] at hl
  obtain ⟨P, hP⟩ : ∃ P : Nat, r.puts = (P : Int) := ⟨r.puts.toNat, by have := hs.p0; omega⟩
  rw [hP] at hp
  have HL := Lib.hid hL
  have HP := Lib.hid hP
  have HKL := Lib.hid (rKeysT_len hs)
  have HRK := Lib.hid (show rKeys r = rKeysT r.cs P ++ r.cs.filterMap keyB by unfold rKeys; rw [hP]; rfl)
  clear hL h hs hP
  go_enter Try.func70, Try.ntmps70
  go_wp2
  go_loopw [3, 4] (fun t3 t4 wr => ∃ (k : Nat) (A' : Option Addr) (c' : Nat) (Z : List Int), k ≤ P ∧ t4 = .int .i64 ((k : Int) + 1) ∧ t3 = .slice A' Z.length c' ∧ Hid (KUp w wr A' c' Z) ∧ Hid (Z = rKeysT r.cs k)) (fun _ t4 _ => P + 1 - (intOf t4).toNat)
  case atStart => exact ⟨0, none, 0, [], Nat.zero_le _, rfl, rfl, Lib.hid (KUp.none_ w), Lib.hid rfl⟩
  case round =>
    obtain ⟨k, A', c', Z, hk, rfl, rfl, HK, HZ⟩ := hrel
    obtain ⟨c0, c1⟩ := (H.out.below HK.out.bel).cells
    rw [← HL.out] at c0
    rw [HP.out] at c1
    by_cases hkp : k < P
    · have hle : (k : Int) + 1 ≤ (P : Int) := by omega
      go_wp2
      go_loopw [3, 5] (fun t3 t5 wr => ∃ (j : Nat) (A' : Option Addr) (c' : Nat) (Y : List Int), j ≤ L ∧ t5 = .int .i64 (j : Int) ∧ t3 = .slice A' Y.length c' ∧ Hid (KUp w wr A' c' Y) ∧ Hid (Y = rKeysT r.cs k ++ (r.cs.take j).filterMap (keyT ((k : Int) + 1)))) (fun _ t5 _ => L - (intOf t5).toNat)
      case atStart => exact ⟨0, A', c', Z, Nat.zero_le _, rfl, rfl, HK, Lib.hid (by rw [HZ.out]; simp)⟩
      case round =>
        clear HK HZ c0 c1
        obtain ⟨j, A', c', Y, hj, rfl, rfl, HK, HZ⟩ := hrel
        have hYl : Y.length ≤ 32 := by
          rw [HZ.out, List.length_append]
          have h1 := HKL.out k
          have h2 := List.length_filterMap_le (keyT ((k : Int) + 1)) (r.cs.take j)
          rw [List.length_take] at h2
          have := HL.out
          omega
        obtain ⟨c0, c1⟩ := (H.out.below HK.out.bel).cells
        rw [← HL.out] at c0
        rw [HP.out] at c1
        have hG := (H.out.below HK.out.bel).blk.lt
        by_cases hlt : j < L
        · obtain ⟨g, o, x, hA, hgl, hx, hc⟩ := (H.out.below HK.out.bel).row.rds.at_ (show j < r.cs.length by rw [← HL.out]; exact hlt)
          rw [hA] at c0
          have x0 : wr.cell? ⟨g, o + j * 4, none⟩ = some (.bool x.1) := hc 0 _ rfl
          have x1 : wr.cell? ⟨g, o + j * 4 + 1, none⟩ = some (.int .i64 x.2.1) := hc 1 _ rfl
          have x2 : wr.cell? ⟨g, o + j * 4 + 2, none⟩ = some (.int .i64 x.2.2.1) := hc 2 _ rfl
          have x3 : wr.cell? ⟨g, o + j * 4 + 3, none⟩ = some (.int .i64 x.2.2.2) := hc 3 _ rfl
          have hlt' : (j : Int) < (L : Int) := by omega
          have HT := Lib.hid (filterMap_take (keyT ((k : Int) + 1)) hx)
          clear hc hx
          have HA := Lib.hid hA
          clear hA
          by_cases e0 : x.1 = true
          case neg =>
            have e0' : x.1 = false := by simpa using e0
            have HN := Lib.hid (show keyT ((k : Int) + 1) x = none by unfold keyT; rw [if_neg fun h => e0 h.1])
            rw [e0'] at x0
            clear e0 e0'
            go_wp2
            go_roundw
            case rel => exact ⟨j + 1, A', c', Y, by omega, by go_num, rfl, Lib.hid (HK.out.below ((Below.refl _ wr).alloc (Nat.le_refl _) _)), Lib.hid (by rw [HT.out, HN.out, Option.toList_none, List.append_nil]; exact HZ.out)⟩
            case measure => simp [intOf]; omega
          rw [e0] at x0
          by_cases e2 : x.2.2.1 = 0
          case neg =>
            have HN := Lib.hid (show keyT ((k : Int) + 1) x = none by unfold keyT; rw [if_neg fun h => e2 h.2.1])
            have t2 : (x.2.2.1 == 0) = false := by simpa using e2
            clear e0 e2
            go_wp2
            go_roundw
            case rel => exact ⟨j + 1, A', c', Y, by omega, by go_num, rfl, Lib.hid (HK.out.below ((Below.refl _ wr).alloc (Nat.le_refl _) _)), Lib.hid (by rw [HT.out, HN.out, Option.toList_none, List.append_nil]; exact HZ.out)⟩
            case measure => simp [intOf]; omega
          rw [e2] at x2
          by_cases e3 : x.2.2.2 = (k : Int) + 1
          case neg =>
            have HN := Lib.hid (show keyT ((k : Int) + 1) x = none by unfold keyT; rw [if_neg fun h => e3 h.2.2])
            have t3 : (x.2.2.2 == (k : Int) + 1) = false := by simpa using e3
            clear e0 e2 e3
            go_wp2
            go_roundw
            case rel => exact ⟨j + 1, A', c', Y, by omega, by go_num, rfl, Lib.hid (HK.out.below ((Below.refl _ wr).alloc (Nat.le_refl _) _)), Lib.hid (by rw [HT.out, HN.out, Option.toList_none, List.append_nil]; exact HZ.out)⟩
            case measure => simp [intOf]; omega
          rw [e3] at x3
          have HN := Lib.hid (show keyT ((k : Int) + 1) x = some x.2.1 by unfold keyT; rw [if_pos ⟨e0, e2, e3⟩])
          obtain ⟨key, hkey⟩ : ∃ key, key = x.2.1 := ⟨_, rfl⟩
          rw [← hkey] at x1 HN
          clear hkey e0 e2 e3
          have HKq := Lib.hid (HK.out.below (w2 := ((wr.alloc (.cells #[.bool true, .int .i64 key, .int .i64 0, .int .i64 ((k : Int) + 1)] 133)).alloc (.cells #[.int .i64 key] 3))) (((Below.refl _ wr).alloc (Nat.le_refl _) _).alloc (by simp) _))
          have gnew : RdS encK 1 ((wr.alloc (.cells #[.bool true, .int .i64 key, .int .i64 0, .int .i64 ((k : Int) + 1)] 133)).alloc (.cells #[.int .i64 key] 3)) (some ⟨wr.heap.size + 1, 0, none⟩) [key] := by
            have h := RdS.new1 encK 1 (wr.alloc (.cells #[.bool true, .int .i64 key, .int .i64 0, .int .i64 ((k : Int) + 1)] 133)) 3 key
            rwa [show (wr.alloc (.cells #[.bool true, .int .i64 key, .int .i64 0, .int .i64 ((k : Int) + 1)] 133)).heap.size = wr.heap.size + 1 by simp] at h
          go_wp2_with (first
            | (at_builtin; refine wpList_appendG iTy (by decide) encK_len encK_one rfl (.tmp 45) (.tmp 48) rfl A' c' Y rfl HKq.out.row (some ⟨wr.heap.size + 1, 0, none⟩) 1 [key] rfl gnew (by simp only [maxLen, List.length_singleton]; omega) (by simp only [List.length_singleton]; omega) ?_; intro A4 c4 w4 g4 k4 q4))
          have K4 := Lib.hid (HKq.out.app g4 k4 q4)
          clear g4 k4 q4 gnew
          go_roundw
          case rel => exact ⟨j + 1, A4, c4, Y ++ [key], by omega, by go_num, by rw [List.length_append]; rfl, K4, Lib.hid (by rw [HT.out, HN.out, ← List.append_assoc, ← HZ.out]; rfl)⟩
          case measure => simp [intOf]; omega
        · obtain rfl : j = L := by omega
          have HZ2 := Lib.hid (show Y = rKeysT r.cs (k + 1) by rw [HZ.out, rKeysT_succ, List.take_of_length_le (by rw [← HL.out]; exact Nat.le_refl _)])
          go_wp2
          go_roundw
          case rel => exact ⟨k + 1, A', c', Y, by omega, by go_num, rfl, HK, HZ2⟩
          case measure => simp [intOf]; omega
    · obtain rfl : k = P := by omega
      go_wp2
      go_loopw [3, 7] (fun t3 t7 wr => ∃ (j : Nat) (A' : Option Addr) (c' : Nat) (Y : List Int), j ≤ L ∧ t7 = .int .i64 (j : Int) ∧ t3 = .slice A' Y.length c' ∧ Hid (KUp w wr A' c' Y) ∧ Hid (Y = rKeysT r.cs k ++ (r.cs.take j).filterMap keyB)) (fun _ t7 _ => L - (intOf t7).toNat)
      case atStart => exact ⟨0, A', c', Z, Nat.zero_le _, rfl, rfl, HK, Lib.hid (by rw [HZ.out]; simp)⟩
      case round =>
        clear HK HZ c0 c1
        obtain ⟨j, A', c', Y, hj, rfl, rfl, HK, HZ⟩ := hrel
        have hYl : Y.length ≤ 32 := by
          rw [HZ.out, List.length_append]
          have h1 := HKL.out k
          have h2 := List.length_filterMap_le keyB (r.cs.take j)
          rw [List.length_take] at h2
          have := HL.out
          omega
        obtain ⟨c0, c1⟩ := (H.out.below HK.out.bel).cells
        rw [← HL.out] at c0
        by_cases hlt : j < L
        · obtain ⟨g, o, x, hA, hgl, hx, hc⟩ := (H.out.below HK.out.bel).row.rds.at_ (show j < r.cs.length by rw [← HL.out]; exact hlt)
          rw [hA] at c0
          have x0 : wr.cell? ⟨g, o + j * 4, none⟩ = some (.bool x.1) := hc 0 _ rfl
          have x1 : wr.cell? ⟨g, o + j * 4 + 1, none⟩ = some (.int .i64 x.2.1) := hc 1 _ rfl
          have x2 : wr.cell? ⟨g, o + j * 4 + 2, none⟩ = some (.int .i64 x.2.2.1) := hc 2 _ rfl
          have hlt' : (j : Int) < (L : Int) := by omega
          have HT := Lib.hid (filterMap_take keyB hx)
          clear hc hx
          have HA := Lib.hid hA
          clear hA
          by_cases e0 : x.1 = true
          case neg =>
            have e0' : x.1 = false := by simpa using e0
            have HN := Lib.hid (show keyB x = none by unfold keyB; rw [if_neg fun h => e0 h.1])
            rw [e0'] at x0
            clear e0 e0'
            go_wp2
            go_roundw
            case rel => exact ⟨j + 1, A', c', Y, by omega, by go_num, rfl, HK, Lib.hid (by rw [HT.out, HN.out, Option.toList_none, List.append_nil]; exact HZ.out)⟩
            case measure => simp [intOf]; omega
          rw [e0] at x0
          by_cases e2 : 0 < x.2.2.1
          case neg =>
            have HN := Lib.hid (show keyB x = none by unfold keyB; rw [if_neg fun h => e2 h.2])
            clear e0
            go_wp2
            go_roundw
            case rel => exact ⟨j + 1, A', c', Y, by omega, by go_num, rfl, HK, Lib.hid (by rw [HT.out, HN.out, Option.toList_none, List.append_nil]; exact HZ.out)⟩
            case measure => simp [intOf]; omega
          have HN := Lib.hid (show keyB x = some x.2.1 by unfold keyB; rw [if_pos ⟨e0, e2⟩])
          obtain ⟨key, hkey⟩ : ∃ key, key = x.2.1 := ⟨_, rfl⟩
          rw [← hkey] at x1 HN
          clear hkey e0
          have HKq := Lib.hid (HK.out.below (w2 := wr.alloc (.cells #[.int .i64 key] 3)) ((Below.refl _ wr).alloc (Nat.le_refl _) _))
          have gnew : RdS encK 1 (wr.alloc (.cells #[.int .i64 key] 3)) (some ⟨wr.heap.size, 0, none⟩) [key] := RdS.new1 encK 1 wr 3 key
          go_wp2_with (first
            | (at_builtin; refine wpList_appendG iTy (by decide) encK_len encK_one rfl (.tmp 78) (.tmp 87) rfl A' c' Y rfl HKq.out.row (some ⟨wr.heap.size, 0, none⟩) 1 [key] rfl gnew (by simp only [maxLen, List.length_singleton]; omega) (by simp only [List.length_singleton]; omega) ?_; intro A4 c4 w4 g4 k4 q4))
          have K4 := Lib.hid (HKq.out.app g4 k4 q4)
          clear g4 k4 q4 gnew
          go_roundw
          case rel => exact ⟨j + 1, A4, c4, Y ++ [key], by omega, by go_num, by rw [List.length_append]; rfl, K4, Lib.hid (by rw [HT.out, HN.out, ← List.append_assoc, ← HZ.out]; rfl)⟩
          case measure => simp [intOf]; omega
        · obtain rfl : j = L := by omega
          have HZ2 := Lib.hid (show Y = rKeys r by rw [HZ.out, HRK.out, List.take_of_length_le (by rw [← HL.out]; exact Nat.le_refl _)])
          go_wp2
          go_ret
          exact ⟨A', c', by rw [← HZ2.out]; rfl, by rw [← HZ2.out]; exact HK.out.row, HK.out.bel, HK.out.far⟩
end
end Go.Proofs.Ytiidheknlacioaa
