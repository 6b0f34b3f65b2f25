/- The document's Lru (package replicaref04): idle, by contract. -/
import Derived.Test.YtiidheknlacioaaRLruM
namespace Go.Proofs.Ytiidheknlacioaa
open Go.RowKit
set_option linter.unusedVariables false
set_option linter.unusedSimpArgs false
/-- what idle answers -/
def rIdleI (cs : List Cel) : Int := bestI (cs.map celU) cs.length
theorem best_cel {l : List Cel} {k : Nat} {x : Cel} (h : l[k]? = some x) : bestI (l.map celU) (k + 1) = if (x.1 = true ∧ x.2.2.1 = 0) ∧ (bestI (l.map celU) k < 0 ∨ x.2.2.2 < atU (l.map celU) (bestI (l.map celU) k).toNat) then (k : Int) else bestI (l.map celU) k := by
  rw [best_step (getElem?_mapU h)]
  unfold celU
  dsimp only
  by_cases e : x.1 = true ∧ x.2.2.1 = 0
  · by_cases q : bestI (l.map celU) k < 0 ∨ x.2.2.2 < atU (l.map celU) (bestI (l.map celU) k).toNat
    · rw [if_pos e, if_pos ⟨rfl, q⟩, if_pos ⟨e, q⟩]
    · rw [if_pos e, if_neg fun h => q h.2, if_neg fun h => q h.2]
  · rw [if_neg e, if_neg fun h => by have := h.1; omega, if_neg fun h => e h.1]
section
variable {w w' : World} {G c : Nat} {r : RLru} {F F' : Nat → Nat → Prop} {A : Option Addr}
set_option maxRecDepth 20000 in
set_option maxHeartbeats 4000000 in
theorem ridle_any (h : RIn w G r A c) (hl : r.cs.length ≤ 16) : Calls Try.prog 105 #[.pointer (some ⟨G, 0, none⟩)] w fun e w' => e = .returned (.int .i64 (rIdleI r.cs)) ∧ Below w.heap.size w w' := by
  have H := Lib.hid h
  obtain ⟨L, hL⟩ : ∃ L, L = r.cs.length := ⟨_, rfl⟩
  rw [← hL] at hl
  have HL := Lib.hid hL
  clear hL h
  go_enter Try.func105, Try.ntmps105
  go_wp2
  go_loopw [3, 4] (fun t3 t4 wr => ∃ k : Nat, k ≤ L ∧ t4 = .int .i64 k ∧ t3 = .int .i64 (bestI (r.cs.map celU) k) ∧ Hid (Below w.heap.size w wr)) (fun _ t4 _ => L - (intOf t4).toNat)
  case atStart => exact ⟨0, by omega, rfl, rfl, Lib.hid (Below.refl _ _)⟩
  case round =>
    obtain ⟨k, hk, rfl, rfl, HB⟩ := hrel
    have HR := Lib.hid (H.out.below HB.out)
    obtain ⟨c0, _⟩ := HR.out.cells
    rw [← HL.out] at c0
    have hG := HR.out.blk.lt
    have hbb := best_bnd (r.cs.map celU) k
    by_cases hlt : k < L
    · obtain ⟨g, o, x, hA, hgl, hx, hc⟩ := HR.out.row.rds.at_ (show k < r.cs.length by rw [← HL.out]; exact hlt)
      subst hA
      have x0 : wr.cell? ⟨g, o + k * 4, none⟩ = some (.bool x.1) := hc 0 _ rfl
      have x1 : wr.cell? ⟨g, o + k * 4 + 1, none⟩ = some (.int .i64 x.2.1) := hc 1 _ rfl
      have x2 : wr.cell? ⟨g, o + k * 4 + 2, none⟩ = some (.int .i64 x.2.2.1) := hc 2 _ rfl
      have x3 : wr.cell? ⟨g, o + k * 4 + 3, none⟩ = some (.int .i64 x.2.2.2) := hc 3 _ rfl
      have hlt' : (k : Int) < (L : Int) := by omega
      have HS := Lib.hid (best_cel hx)
      have Hx := Lib.hid hx
      obtain ⟨B, hB⟩ : ∃ B, B = bestI (r.cs.map celU) k := ⟨_, rfl⟩
      rw [← hB] at hbb HS ⊢
      clear hc hx
      obtain ⟨U, hU⟩ : ∃ U, U = x.1 := ⟨_, rfl⟩
      rw [← hU] at x0 HS
      clear hU
      cases U with
      | false =>
        clear hbb hB
        go_wp2
        go_quiet (fail)
        go_wp2
        go_roundw
        case rel => exact ⟨k + 1, by omega, by go_num, by rw [HS.out, if_neg fun h => by cases h.1.1], Lib.hid (below_drewN (HB.out.alloc HB.out.size _) _)⟩
        case measure => simp [intOf]; omega
      | true =>
        by_cases e : x.2.2.1 = 0
        case neg =>
          have te : (x.2.2.1 == 0) = false := by simpa using e
          have He := Lib.hid e
          clear e hbb hB
          go_wp2
          go_quiet (fail)
          go_wp2
          go_roundw
          case rel => exact ⟨k + 1, by omega, by go_num, by rw [HS.out, if_neg fun h => He.out h.1.2], Lib.hid (below_drewN (HB.out.alloc HB.out.size _) _)⟩
          case measure => simp [intOf]; omega
        have te : (x.2.2.1 == 0) = true := by simpa using e
        have He := Lib.hid e
        clear e
        by_cases hb0 : B < 0
        · have hbn := Lib.hid hb0
          clear hbb hB
          go_wp2
          go_quiet (fail)
          go_wp2
          go_roundw
          case rel => exact ⟨k + 1, by omega, by go_num, by rw [HS.out, if_pos ⟨⟨by trivial, He.out⟩, .inl hbn.out⟩], Lib.hid (below_drewN (HB.out.alloc HB.out.size _) _)⟩
          case measure => simp [intOf]; omega
        · obtain ⟨j, hj1, hj2⟩ : ∃ j, bestU (r.cs.map celU) k = some j ∧ B = (j : Int) := by
            rcases hbb.2.2 with h | ⟨j, h1, h2⟩
            · omega
            · exact ⟨j, h1, h2⟩
          obtain ⟨yu, hyu, _, _⟩ := bestU_some hj1
          have hjk := bestU_lt hj1
          rw [List.getElem?_map] at hyu
          obtain ⟨y, hy, rfl⟩ := Option.map_eq_some_iff.1 hyu
          obtain ⟨g', o', hA, _, hcy⟩ := HR.out.row.rds j y hy
          cases hA
          have y3 : wr.cell? ⟨g, o + j * 4 + 3, none⟩ = some (.int .i64 y.2.2.2) := hcy 3 _ rfl
          have hat : atU (r.cs.map celU) j = y.2.2.2 := by unfold atU; rw [getElem?_mapU hy]; rfl
          have hHS : bestI (r.cs.map celU) (k + 1) = if x.2.2.2 < y.2.2.2 then (k : Int) else (j : Int) := by
            rw [HS.out, hj2, show ((j : Int)).toNat = j by omega, hat]
            by_cases q : x.2.2.2 < y.2.2.2
            · rw [if_pos q, if_pos ⟨⟨by trivial, He.out⟩, .inr q⟩]
            · rw [if_neg q, if_neg fun h => q (h.2.resolve_left (by omega))]
          have hj3 : (j : Int) < (L : Int) := by omega
          have hj4 : ¬ (j : Int) < 0 := by omega
          have hj5 : (0 : Int) ≤ (j : Int) := by omega
          rw [hj2]
          have HS2 := Lib.hid hHS
          by_cases hlt2 : x.2.2.2 < y.2.2.2
          · have HL2 := Lib.hid hlt2
            clear hbb hB hHS hy hcy hat hj1 hj2 hb0 hyu
            go_wp2
            go_quiet (fail)
            go_wp2
            go_roundw
            case rel => exact ⟨k + 1, by omega, by go_num, by rw [HS2.out, if_pos HL2.out], Lib.hid (below_drewN (HB.out.alloc HB.out.size _) _)⟩
            case measure => simp [intOf]; omega
          · have HL2 := Lib.hid hlt2
            clear hbb hB hHS hy hcy hat hj1 hj2 hb0 hyu
            go_wp2
            go_quiet (fail)
            go_wp2
            go_roundw
            case rel => exact ⟨k + 1, by omega, by go_num, by rw [HS2.out, if_neg (Int.not_lt.2 HL2.out)], Lib.hid (below_drewN (HB.out.alloc HB.out.size _) _)⟩
            case measure => simp [intOf]; omega
    · obtain rfl : k = L := by omega
      have HBB := Lib.hid (show bestI (r.cs.map celU) k = rIdleI r.cs by unfold rIdleI; rw [← HL.out])
      clear hbb
      go_wp2
      go_ret
      exact ⟨by rw [← HBB.out]; rfl, HB.out⟩
end
end Go.Proofs.Ytiidheknlacioaa
