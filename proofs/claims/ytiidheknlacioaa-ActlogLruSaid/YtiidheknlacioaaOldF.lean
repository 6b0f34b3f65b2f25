/- Package replicalaw04: num, find, oldest, without, by contract. -/
import Derived.Test.YtiidheknlacioaaProg
import Derived.Test.YtiidheknlacioaaGSet
import Derived.Test.YtiidheknlacioaaOldP
namespace Go.Proofs.Ytiidheknlacioaa
open Go.RowKit
set_option linter.unusedVariables false
set_option linter.unusedSimpArgs false
def encU (u : U4) : List Value := [.int .i64 u.1, .int .i64 u.2.1, .int .i64 u.2.2.1, .int .i64 u.2.2.2]
theorem encU_len (u : U4) : (encU u).length = 4 := rfl
theorem encU_one (u : U4) : ∀ v ∈ encU u, v.oneCell' = true := fun v hv => by
  simp only [encU, List.mem_cons, List.not_mem_nil, or_false] at hv
  rcases hv with rfl | rfl | rfl | rfl <;> rfl
theorem uTy : SlTy Try.prog 28 31 4 32 := SlTy.mk' (z := .agg #[.int .i64 0, .int .i64 0, .int .i64 0, .int .i64 0]) Try.underlying28 (by kernel_rfl) rfl
theorem num_any (n : Int) (w : World) : Calls Try.prog 15 #[.int .i64 n] w fun e w' => e = .returned (.int .i64 n) ∧ w = w' := by
  go_enter Try.func15, Try.ntmps15
  go_wp2
  go_ret
  exact ⟨rfl, rfl⟩
theorem findI_at {l : List U4} {key : Int} {k : Nat} {u : U4} (hu : l[k]? = some u) (e : u.1 = key) (hn : ∀ (j : Nat) (v : U4), j < k → l[j]? = some v → v.1 ≠ key) : findI l key = k := by
  have hk := (List.getElem?_eq_some_iff.1 hu).1
  have : findU l key = some k := by
    unfold findU
    rw [List.findIdx?_eq_some_iff_getElem]
    refine ⟨hk, ?_, fun j hj => ?_⟩
    · rw [List.getElem?_eq_getElem hk] at hu; rw [Option.some.inj hu]; simpa using e
    · have := hn j l[j] hj (List.getElem?_eq_getElem (by omega)); simpa using this
  unfold findI; rw [this]
theorem findI_no {l : List U4} {key : Int} (hn : ∀ (j : Nat) (v : U4), j < l.length → l[j]? = some v → v.1 ≠ key) : findI l key = -1 := by
  have : findU l key = none := by
    unfold findU
    rw [List.findIdx?_eq_none_iff]
    intro u hu
    obtain ⟨j, hj, rfl⟩ := List.getElem_of_mem hu
    have := hn j l[j] hj (List.getElem?_eq_getElem hj)
    simpa using this
  unfold findI; rw [this]
set_option maxRecDepth 20000 in
set_option maxHeartbeats 1000000 in
theorem find_any {A : Option Addr} {c n : Nat} {l : List U4} {w : World} (key : Int) (hr : RdS encU 4 w A l) (hn : l.length = n) (hl : n ≤ 9223372036854775807) :
    Calls Try.prog 16 #[.slice A n c, .int .i64 key] w fun e w' => e = .returned (.int .i64 (findI l key)) ∧ w = w' := by
  subst hn
  go_enter Try.func16, Try.ntmps16
  go_wp2
  go_loop [5] (fun ct => ∃ k : Nat, k ≤ l.length ∧ ct = .int .i64 k ∧ ∀ (j : Nat) (v : U4), j < k → l[j]? = some v → v.1 ≠ key) (fun ct => l.length - (intOf ct).toNat)
  case atStart => exact ⟨0, by omega, rfl, fun j v hj => by omega⟩
  case round =>
    obtain ⟨k, hk, rfl, hh⟩ := hrel
    by_cases hlt : k < l.length
    · obtain ⟨g, o, x, rfl, _, hx, hc⟩ := hr.at_ hlt
      have x0 : w.cell? ⟨g, o + k * 4, none⟩ = some (.int .i64 x.1) := hc 0 _ rfl
      have Hx := Lib.hid hx
      have HH := Lib.hid hh
      clear hc hx hh
      by_cases e : x.1 = key
      · have t : (x.1 == key) = true := by simpa using e
        have He := Lib.hid e
        clear e
        go_wp2
        go_ret
        exact ⟨by rw [findI_at Hx.out He.out HH.out]; rfl, rfl⟩
      · have t : (x.1 == key) = false := by simpa using e
        have He := Lib.hid e
        clear e
        go_wp2
        go_round
        case rel =>
          refine ⟨k + 1, by omega, by go_num, fun j v hj hv => ?_⟩
          by_cases ej : j = k
          · subst ej; rw [Hx.out] at hv; cases hv; exact He.out
          · exact HH.out j v (by omega) hv
        case measure => simp [intOf]; omega
    · obtain rfl : k = l.length := by omega
      have HH := Lib.hid hh
      clear hh
      go_wp2
      go_ret
      exact ⟨by rw [findI_no HH.out]; rfl, rfl⟩
/-- what oldest answers -/
def oldU (l : List U4) : Int := match bestU l l.length with | none => 0 | some j => (l[j]?.getD (0, 0, 0, 0)).1
theorem best_step {l : List U4} {k : Nat} {u : U4} (h : l[k]? = some u) : bestI l (k + 1) = if u.2.1 = u.2.2.1 ∧ (bestI l k < 0 ∨ u.2.2.2 < atU l (bestI l k).toNat) then (k : Int) else bestI l k := by
  unfold bestI
  rw [bestU, h]
  dsimp only
  cases hb : bestU l k with
  | none =>
    by_cases e : idleU u
    · rw [if_pos ⟨e, rfl⟩, if_pos ⟨e, .inl (by decide)⟩]
    · rw [if_neg fun h => e h.1, if_neg fun h => e h.1]
  | some j =>
    have e2 : ((j : Int)).toNat = j := by omega
    dsimp only
    rw [e2]
    by_cases e : idleU u ∧ u.2.2.2 < atU l j
    · rw [if_pos ⟨e.1, by simpa [lessB] using e.2⟩, if_pos ⟨e.1, .inr e.2⟩]
    · rw [if_neg fun h => e ⟨h.1, by simpa [lessB] using h.2⟩, if_neg fun h => e ⟨h.1, h.2.resolve_left (by omega)⟩]
theorem best_bnd (l : List U4) (k : Nat) : -1 ≤ bestI l k ∧ bestI l k < k ∧ (bestI l k = -1 ∨ ∃ j, bestU l k = some j ∧ bestI l k = j) := by
  unfold bestI
  cases hb : bestU l k with
  | none => dsimp only; exact ⟨by omega, by omega, .inl rfl⟩
  | some j => have := bestU_lt hb; dsimp only; exact ⟨by omega, by omega, .inr ⟨j, rfl, rfl⟩⟩
set_option maxRecDepth 20000 in
set_option maxHeartbeats 4000000 in
theorem oldest_any {A : Option Addr} {c n : Nat} {l : List U4} {w : World} (hr : RdS encU 4 w A l) (hn : l.length = n) (hl : n ≤ 9223372036854775807) :
    Calls Try.prog 18 #[.slice A n c] w fun e w' => e = .returned (.tuple #[.int .i64 (oldU l), .bool (bestU l l.length).isSome]) ∧ ∃ n, w' = w.drewN n := by
  subst hn
  go_enter Try.func18, Try.ntmps18
  go_wp2
  go_loopw [4, 5] (fun t4 t5 wr => ∃ k m : Nat, k ≤ l.length ∧ t5 = .int .i64 k ∧ t4 = .int .i64 (bestI l k) ∧ wr = w.drewN m) (fun _ t5 _ => l.length - (intOf t5).toNat)
  case atStart => exact ⟨0, 0, by omega, rfl, rfl, rfl⟩
  case round =>
    obtain ⟨k, m, hk, rfl, rfl, rfl⟩ := hrel
    have hbb := best_bnd l k
    by_cases hlt : k < l.length
    · obtain ⟨g, o, x, rfl, _, hx, hc⟩ := hr.at_ hlt
      have x1 : w.cell? ⟨g, o + k * 4 + 1, none⟩ = some (.int .i64 x.2.1) := hc 1 _ rfl
      have x2 : w.cell? ⟨g, o + k * 4 + 2, none⟩ = some (.int .i64 x.2.2.1) := hc 2 _ rfl
      have x3 : w.cell? ⟨g, o + k * 4 + 3, none⟩ = some (.int .i64 x.2.2.2) := hc 3 _ rfl
      have hs := best_step hx
      have t1 : (k : Int) < (l.length : Int) := by omega
      have HS := Lib.hid hs
      have Hx := Lib.hid hx
      obtain ⟨B, hB⟩ : ∃ B, B = bestI l k := ⟨_, rfl⟩
      rw [← hB] at hbb HS ⊢
      clear hc hs hx
      by_cases e : x.2.1 = x.2.2.1
      · have te : (x.2.1 == x.2.2.1) = true := by simpa using e
        by_cases hb0 : B < 0
        · have He := Lib.hid e
          have hbn := Lib.hid hb0
          clear e hbb hB
          go_wp2
          go_quiet (fail)
          go_wp2
          go_roundw
          case rel => exact ⟨k + 1, _, by omega, by go_num, by rw [HS.out, if_pos ⟨He.out, .inl hbn.out⟩], rfl⟩
          case measure => simp [intOf]; omega
        · obtain ⟨j, hj1, hj2⟩ : ∃ j, bestU l k = some j ∧ B = (j : Int) := by
            rcases hbb.2.2 with h | ⟨j, h1, h2⟩
            · omega
            · exact ⟨j, h1, h2⟩
          obtain ⟨y, hy, _, _⟩ := bestU_some hj1
          have hjk := bestU_lt hj1
          obtain ⟨g', o', hA, _, hcy⟩ := hr j y hy
          cases hA
          have y3 : w.cell? ⟨g, o + j * 4 + 3, none⟩ = some (.int .i64 y.2.2.2) := hcy 3 _ rfl
          have hat : atU l j = y.2.2.2 := by unfold atU; rw [hy]; rfl
          have hHS : bestI l (k + 1) = if x.2.1 = x.2.2.1 ∧ x.2.2.2 < y.2.2.2 then (k : Int) else (j : Int) := by
            rw [HS.out, hj2, show ((j : Int)).toNat = j by omega, hat]
            by_cases q : x.2.1 = x.2.2.1 ∧ x.2.2.2 < y.2.2.2
            · rw [if_pos q, if_pos ⟨q.1, .inr q.2⟩]
            · rw [if_neg q, if_neg fun h => q ⟨h.1, h.2.resolve_left (by omega)⟩]
          have hj3 : (j : Int) < (l.length : Int) := by omega
          have hj4 : ¬ (j : Int) < 0 := by omega
          have hj5 : (0 : Int) ≤ (j : Int) := by omega
          rw [hj2]
          have HS2 := Lib.hid hHS
          have He := Lib.hid e
          by_cases hlt2 : x.2.2.2 < y.2.2.2
          · have HL2 := Lib.hid hlt2
            clear e hbb hB hHS hy hcy hat hj1 hj2 hb0
            go_wp2
            go_quiet (fail)
            go_wp2
            go_roundw
            case rel => exact ⟨k + 1, _, by omega, by go_num, by rw [HS2.out, if_pos ⟨He.out, HL2.out⟩], rfl⟩
            case measure => simp [intOf]; omega
          · have HL2 := Lib.hid hlt2
            clear e hbb hB hHS hy hcy hat hj1 hj2 hb0
            go_wp2
            go_quiet (fail)
            go_wp2
            go_roundw
            case rel => exact ⟨k + 1, _, by omega, by go_num, by rw [HS2.out, if_neg fun h => by have := HL2.out; have := h.2; omega], rfl⟩
            case measure => simp [intOf]; omega
      · have te : (x.2.1 == x.2.2.1) = false := by simpa using e
        have He := Lib.hid e
        clear e hbb hB
        go_wp2
        go_quiet (fail)
        go_wp2
        go_roundw
        case rel => exact ⟨k + 1, _, by omega, by go_num, by rw [HS.out, if_neg fun h => He.out h.1], rfl⟩
        case measure => simp [intOf]; omega
    · obtain rfl : k = l.length := by omega
      rcases hbb.2.2 with h | ⟨j, h1, h2⟩
      · have hn : bestU l l.length = none := by
          unfold bestI at h
          cases hb : bestU l l.length with
          | none => rfl
          | some j => rw [hb] at h; dsimp only at h; omega
        have ho : oldU l = 0 := by unfold oldU; rw [hn]
        rw [h]
        have HO := Lib.hid ho
        have HN := Lib.hid hn
        clear hbb h hn ho
        go_wp2
        go_ret2
        exact ⟨by rw [HO.out, HN.out]; rfl, _, rfl⟩
      · obtain ⟨y, hy, _, _⟩ := bestU_some h1
        have hjk := bestU_lt h1
        obtain ⟨g, o, rfl, _, hcy⟩ := hr j y hy
        have y0 : w.cell? ⟨g, o + j * 4, none⟩ = some (.int .i64 y.1) := hcy 0 _ rfl
        have ho : oldU l = y.1 := by unfold oldU; rw [h1]; dsimp only; rw [hy]; rfl
        have hj3 : (j : Int) < (l.length : Int) := by omega
        have hj4 : ¬ (j : Int) < 0 := by omega
        have hj5 : (0 : Int) ≤ (j : Int) := by omega
        rw [h2]
        have HO := Lib.hid ho
        have HN := Lib.hid h1
        clear hbb h1 h2 ho hy hcy
        go_wp2
        go_ret2
        exact ⟨by rw [HO.out, HN.out]; rfl, _, rfl⟩
theorem without_take {l : List U4} {k : Nat} {u : U4} (key : Int) (h : l[k]? = some u) : withoutU (l.take (k + 1)) key = if u.1 = key then withoutU (l.take k) key else withoutU (l.take k) key ++ [u] := by
  unfold withoutU
  rw [List.take_add_one, h, List.filter_append]
  by_cases e : u.1 = key
  · rw [if_pos e]; simp [e]
  · rw [if_neg e]; simp [e]
set_option maxRecDepth 20000 in
set_option maxHeartbeats 4000000 in
theorem without_any {A : Option Addr} {c n : Nat} {l : List U4} {w : World} (key : Int) (hr : RdS encU 4 w A l) (hn : l.length = n) (hl : n ≤ 1000000) :
    Calls Try.prog 20 #[.slice A n c, .int .i64 key] w fun e w' => ∃ A' c', e = .returned (.slice A' (withoutU l key).length c') ∧ GSl encU 4 31 w' A' c' (withoutU l key) ∧ Below w.heap.size w w' ∧ ∀ k i, slFp 4 A' 0 c' k i → w.heap.size ≤ k := by
  have HN := Lib.hid hn
  have HR := Lib.hid hr
  clear hn hr
  go_enter Try.func20, Try.ntmps20
  go_wp2
  go_loopw [5, 6] (fun t5 t6 wr => ∃ (k : Nat) (A' : Option Addr) (c' : Nat), k ≤ n ∧ t6 = .int .i64 k ∧ t5 = .slice A' (withoutU (l.take k) key).length c' ∧ GSl encU 4 31 wr A' c' (withoutU (l.take k) key) ∧ Below w.heap.size w wr ∧ ∀ j i, slFp 4 A' 0 c' j i → w.heap.size ≤ j) (fun _ t6 _ => n - (intOf t6).toNat)
  case atStart => exact ⟨0, none, 0, Nat.zero_le _, rfl, rfl, GSl.nil_, Below.refl _ _, fun j i ⟨_, e, _⟩ => by cases e⟩
  case round =>
    obtain ⟨k, A', c', hk, rfl, rfl, hg, hB, hf⟩ := hrel
    obtain ⟨Z, hZ⟩ : ∃ Z, Z = withoutU (l.take k) key := ⟨_, rfl⟩
    rw [← hZ] at hg ⊢
    have hZl : Z.length ≤ n := by rw [hZ]; exact Nat.le_trans (List.length_filter_le _ _) (by rw [List.length_take]; omega)
    have HG := Lib.hid hg
    have HB := Lib.hid hB
    have HF := Lib.hid hf
    have HZ := Lib.hid hZ
    by_cases hlt : k < n
    · obtain ⟨g, o, x, rfl, hgl, hx, hc⟩ := HR.out.at_ (show k < l.length by rw [HN.out]; exact hlt)
      have x0 : wr.cell? ⟨g, o + k * 4, none⟩ = some (.int .i64 x.1) := (hB.cell (p := ⟨g, o + k * 4, none⟩) hgl).trans (hc 0 _ rfl)
      have x1 : wr.cell? ⟨g, o + k * 4 + 1, none⟩ = some (.int .i64 x.2.1) := (hB.cell (p := ⟨g, o + k * 4 + 1, none⟩) hgl).trans (hc 1 _ rfl)
      have x2 : wr.cell? ⟨g, o + k * 4 + 2, none⟩ = some (.int .i64 x.2.2.1) := (hB.cell (p := ⟨g, o + k * 4 + 2, none⟩) hgl).trans (hc 2 _ rfl)
      have x3 : wr.cell? ⟨g, o + k * 4 + 3, none⟩ = some (.int .i64 x.2.2.2) := (hB.cell (p := ⟨g, o + k * 4 + 3, none⟩) hgl).trans (hc 3 _ rfl)
      have hlt' : (k : Int) < (n : Int) := by omega
      have HW := Lib.hid (without_take key hx)
      by_cases e : x.1 = key
      · have te : (x.1 == key) = true := by simpa using e
        have He := Lib.hid e
        clear e hg hB hf hZ hx hc
        go_wp2
        go_roundw
        case rel => exact ⟨k + 1, A', c', by omega, by go_num, by rw [HW.out, if_pos He.out, HZ.out], by rw [HW.out, if_pos He.out, ← HZ.out]; exact HG.out, HB.out, HF.out⟩
        case measure => simp [intOf]; omega
      · have te : (x.1 == key) = false := by simpa using e
        have He := Lib.hid e
        have gin : GSl encU 4 31 (wr.alloc (.cells #[.int .i64 x.1, .int .i64 x.2.1, .int .i64 x.2.2.1, .int .i64 x.2.2.2] 31)) A' c' Z := hg.chg (Chg.alloc (fun k _ => wr.heap.size ≤ k) wr _) encU_len fun j i hj hle => by have := slFp_lt hg (slFp_len hg hj); omega
        have gnew : RdS encU 4 (wr.alloc (.cells #[.int .i64 x.1, .int .i64 x.2.1, .int .i64 x.2.2.1, .int .i64 x.2.2.2] 31)) (some ⟨wr.heap.size, 0, none⟩) [x] := RdS.new1 encU 4 wr 31 x
        clear e hg hB hf hZ hx hc
        go_wp2_with (first
          | (at_builtin; refine wpList_appendG uTy (by decide) encU_len encU_one rfl (.tmp 20) (.tmp 25) rfl A' c' Z rfl gin (some ⟨wr.heap.size, 0, none⟩) 1 [x] rfl gnew (by simp only [maxLen, List.length_singleton]; omega) (by simp only [List.length_singleton]; omega) ?_; intro A4 c4 w4 g4 k4 q4))
        have f4 : ∀ j i, slFp 4 A4 0 c4 j i → w.heap.size ≤ j := fun j i hj => by
          rcases q4 with ⟨rfl, rfl⟩ | ⟨g', rfl, hg'⟩
          · exact HF.out j i hj
          · obtain ⟨o', e, _⟩ := hj; cases e; have := HB.out.size; simp at hg'; omega
        have B4 : Below w.heap.size w w4 := (HB.out.alloc HB.out.size _).trans (k4.below (by have := HB.out.size; simp; omega) fun j i hj hs => by have := HF.out j i (slFp_zero hs); omega)
        have hsn : withoutU (l.take (k + 1)) key = Z ++ [x] := by rw [HW.out, if_neg He.out, HZ.out]
        rw [← hsn] at g4
        go_roundw
        case rel => exact ⟨k + 1, A4, c4, by omega, by go_num, by rw [hsn, List.length_append]; rfl, g4, B4, f4⟩
        case measure => simp [intOf]; omega
    · obtain rfl : k = n := by omega
      have hZ' : withoutU l key = Z := by rw [hZ, List.take_of_length_le (by rw [HN.out]; exact Nat.le_refl _)]
      have HZ' := Lib.hid hZ'
      clear hg hB hf hZ hZ'
      go_wp2
      go_ret
      exact ⟨_, _, by rw [HZ'.out]; rfl, by rw [HZ'.out]; exact HG.out, HB.out, HF.out⟩
end Go.Proofs.Ytiidheknlacioaa
