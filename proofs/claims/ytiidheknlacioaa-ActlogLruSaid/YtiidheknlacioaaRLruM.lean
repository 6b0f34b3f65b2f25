/- The document's Lru (package replicaref04): in memory; NewLru, Slot, Refs, by contract. -/
import Derived.Test.YtiidheknlacioaaRLruP
import Derived.Test.YtiidheknlacioaaOldF
import Derived.Test.YtiidheknlacioaaGSet
namespace Go.Proofs.Ytiidheknlacioaa
open Go.RowKit
set_option linter.unusedVariables false
set_option linter.unusedSimpArgs false
def encC (c : Cel) : List Value := [.bool c.1, .int .i64 c.2.1, .int .i64 c.2.2.1, .int .i64 c.2.2.2]
theorem encC_len (c : Cel) : (encC c).length = 4 := rfl
theorem encC_one (c : Cel) : ∀ v ∈ encC c, v.oneCell' = true := fun v hv => by
  simp only [encC, List.mem_cons, List.not_mem_nil, or_false] at hv
  rcases hv with rfl | rfl | rfl | rfl <;> rfl
theorem cTy : SlTy Try.prog 129 133 4 32 := SlTy.mk' (z := .agg #[.bool false, .int .i64 0, .int .i64 0, .int .i64 0]) Try.underlying129 (by kernel_rfl) rfl
structure RIn (w : World) (G : Nat) (r : RLru) (A : Option Addr) (c : Nat) : Prop where
  blk : Blk w G 131 #[.slice A r.cs.length c, .int .i64 r.puts]
  row : GSl encC 4 133 w A c r.cs
def rFp (G : Nat) (A : Option Addr) (c : Nat) : Nat → Nat → Prop := fun k i => k = G ∨ slFp 4 A 0 c k i
def RAt (w : World) (G : Nat) (r : RLru) (F : Nat → Nat → Prop) : Prop := ∃ A c, RIn w G r A c ∧ r.cs.length ≤ 16 ∧ ∀ k i, F k i ↔ rFp G A c k i
section
variable {w w' : World} {G c : Nat} {r : RLru} {F F' : Nat → Nat → Prop} {A : Option Addr}
theorem RIn.cells (h : RIn w G r A c) : w.cell? ⟨G, 0, none⟩ = some (.slice A r.cs.length c) ∧ w.cell? ⟨G, 1, none⟩ = some (.int .i64 r.puts) := ⟨h.blk.cell 0, h.blk.cell 1⟩
theorem RIn.frz (h : RIn w G r A c) (i : Nat) : w.frozen? ⟨G, i, none⟩ = false := h.blk.frozen i
theorem RIn.ne (h : RIn w G r A c) : ∀ i, ¬ slFp 4 A 0 c G i := fun i hs => absurd (slFp_type h.row hs h.blk) (by decide)
theorem RIn.chg (h : RIn w G r A c) (hc : Chg F' w w') (hn : ∀ k i, rFp G A c k i → ¬ F' k i) : RIn w' G r A c :=
  ⟨hc.blk h.blk fun i => hn _ _ (.inl rfl), h.row.chg hc encC_len fun g i hs => hn _ _ (.inr (slFp_len h.row hs))⟩
theorem RIn.fp_lt (h : RIn w G r A c) {k i : Nat} (hk : rFp G A c k i) : k < w.heap.size := by
  rcases hk with rfl | hs
  · exact h.blk.lt
  · exact slFp_lt h.row hs
theorem RIn.below (h : RIn w G r A c) (hB : Below w.heap.size w w') : RIn w' G r A c := h.chg (Chg.of_below (fun _ _ => False) hB) fun _ _ _ h => h
theorem RIn.drewN (h : RIn w G r A c) (n : Nat) : RIn (w.drewN n) G r A c := h.below (below_drewN (Below.refl _ _) n)
theorem RAt.chg (h : RAt w G r F) (hc : Chg F' w w') (hn : ∀ k i, F k i → ¬ F' k i) : RAt w' G r F := by
  obtain ⟨A, c, h, hl, hF⟩ := h
  exact ⟨A, c, h.chg hc fun k i hk => hn k i ((hF k i).2 hk), hl, hF⟩
theorem RAt.fp_lt (h : RAt w G r F) {k i : Nat} (hk : F k i) : k < w.heap.size := by
  obtain ⟨A, c, h, hl, hF⟩ := h
  exact h.fp_lt ((hF k i).1 hk)
theorem RAt.below (h : RAt w G r F) (hB : Below w.heap.size w w') : RAt w' G r F := h.chg (Chg.of_below (fun _ _ => False) hB) fun _ _ _ h => h
/-- one cell of one of the cells is written -/
theorem RIn.cell (h : RIn w G r A c) {g o a j : Nat} {u y : Cel} {v : Value} (hA : A = some ⟨g, o, none⟩) (hu : r.cs[a]? = some u) (hj : j < 4) (he : encC y = (encC u).set j v) : RIn (w.setCell ⟨g, o + (a * 4 + j), none⟩ v) G ⟨r.cs.set a y, r.puts⟩ A c ∧ Chg (rFp G A c) w (w.setCell ⟨g, o + (a * 4 + j), none⟩ v) := by
  subst hA
  have hle := h.row.le
  have ha := (List.getElem?_eq_some_iff.1 hu).1
  have hs : slFp 4 (some ⟨g, o, none⟩) 0 c g (o + (a * 4 + j)) := ⟨o, rfl, by omega, by omega⟩
  have hne : g ≠ G := fun e => by subst e; exact h.ne _ hs
  refine ⟨⟨?_, h.row.setAt encC_len hu hj he⟩, Chg.setCell _ w (.inr hs) v⟩
  have := h.blk.far (p := ⟨g, o + (a * 4 + j), none⟩) (fun e => hne e.symm) v
  rw [show (r.cs.set a y).length = r.cs.length from List.length_set]
  exact this
/-- a whole cell is written -/
theorem RIn.el (h : RIn w G r A c) {g o a : Nat} (hA : A = some ⟨g, o, none⟩) (ha : a < r.cs.length) (y : Cel) : RIn (w.setCells g (o + a * 4) (encC y)) G ⟨r.cs.set a y, r.puts⟩ A c ∧ w.there g (o + a * 4) 4 ∧ Chg (rFp G A c) w (w.setCells g (o + a * 4) (encC y)) := by
  subst hA
  have hle := h.row.le
  have hs : ∀ i, o + a * 4 ≤ i → i < o + a * 4 + 4 → slFp 4 (some ⟨g, o, none⟩) 0 c g i := fun i h1 h2 => ⟨o, rfl, by omega, by omega⟩
  have hne : g ≠ G := fun e => by subst e; exact h.ne _ (hs (o + a * 4) (by omega) (by omega))
  obtain ⟨hr, ht, _⟩ := h.row.setEl encC_len ha y
  refine ⟨⟨?_, hr⟩, ht, setCells_chg _ (encC y) (o + a * 4) w g fun i h1 h2 => .inr (hs i h1 (by rw [encC_len] at h2; exact h2))⟩
  rw [show (r.cs.set a y).length = r.cs.length from List.length_set]
  exact (setCells_chg (fun k _ => k = g) (encC y) (o + a * 4) w g fun _ _ _ => rfl).blk h.blk fun _ e => hne e.symm
/-- the count of Puts is written -/
theorem RIn.put1 (h : RIn w G r A c) (p : Int) : RIn (w.setCell ⟨G, 1, none⟩ (.int .i64 p)) G ⟨r.cs, p⟩ A c ∧ Chg (rFp G A c) w (w.setCell ⟨G, 1, none⟩ (.int .i64 p)) := by
  have hc := Chg.setCell (fun k _ => k = G) w (g := G) (i := 1) rfl (.int .i64 p)
  refine ⟨⟨h.blk.set_ 1 _, h.row.chg hc encC_len fun g i hs e => ?_⟩, Chg.setCell _ w (.inl rfl) _⟩
  subst e
  exact h.ne i (slFp_len h.row hs)

/-! ### NewLru -/
def newR (n : Nat) : RLru := ⟨List.replicate n (false, 0, 0, 0), 0⟩
theorem rnew_no (x : Int) (h : x < 1 ∨ 16 < x) (w : World) : Calls Try.prog 23 #[.int .i64 x] w fun e w' => e = .returned (.tuple #[.pointer none, .int .i64 1]) ∧ w = w' := by
  rcases h with h | h
  · go_enter Try.func23, Try.ntmps23
    go_wp2
    go_ret2
    exact ⟨rfl, rfl⟩
  · have h1 : ¬ x < 1 := by omega
    go_enter Try.func23, Try.ntmps23
    go_wp2
    go_ret2
    exact ⟨rfl, rfl⟩
set_option maxRecDepth 20000 in
set_option maxHeartbeats 4000000 in
theorem rnew_yes (n : Nat) (h1 : 1 ≤ n) (h2 : n ≤ 16) (w : World) : Calls Try.prog 23 #[.int .i64 (n : Int)] w fun e w' =>
    ∃ G F, e = .returned (.tuple #[.pointer (some ⟨G, 0, none⟩), .int .i64 0]) ∧ RAt w' G (newR n) F ∧ Below w.heap.size w w' ∧ ∀ k i, F k i → w.heap.size ≤ k := by
  have a1 : ¬ (n : Int) < 1 := by omega
  have a2 : ¬ (16 : Int) < (n : Int) := by omega
  go_enter Try.func23, Try.ntmps23
  go_wp2
  go_loopw [5] (fun t5 wr => ∃ (k : Nat) (A : Option Addr) (c : Nat), k ≤ n ∧ t5 = .int .i64 k ∧ Hid (RIn wr w.heap.size (newR k) A c) ∧ Hid (Below w.heap.size w wr) ∧ Hid (∀ j i, slFp 4 A 0 c j i → w.heap.size ≤ j)) (fun t5 _ => n - (intOf t5).toNat)
  case atStart => exact ⟨0, none, 0, Nat.zero_le _, rfl, Lib.hid ⟨Blk.new w _ _, GSl.nil_⟩, Lib.hid ((Below.refl _ w).alloc (Nat.le_refl _) _), Lib.hid fun j i ⟨_, e, _⟩ => by cases e⟩
  case round =>
    obtain ⟨k, A, c, hk, rfl, HR, HB, HF⟩ := hrel
    have hlk : (newR k).cs.length = k := List.length_replicate
    obtain ⟨c0, c1⟩ := HR.out.cells
    rw [hlk] at c0
    by_cases hlt : k < n
    · have hlt' : (k : Int) < (n : Int) := by omega
      have gin : GSl encC 4 133 (wr.alloc (.cells #[.bool false, .int .i64 0, .int .i64 0, .int .i64 0] 133)) A c (newR k).cs := HR.out.row.chg (Chg.alloc (fun k _ => wr.heap.size ≤ k) wr _) encC_len fun j i hj hle => by have := slFp_lt HR.out.row (slFp_len HR.out.row hj); omega
      have gnew : RdS encC 4 (wr.alloc (.cells #[.bool false, .int .i64 0, .int .i64 0, .int .i64 0] 133)) (some ⟨wr.heap.size, 0, none⟩) [(false, 0, 0, 0)] := RdS.new1 encC 4 wr 133 (false, 0, 0, 0)
      have HLK := Lib.hid hlk
      have b4 := Lib.hid (HR.out.below ((Below.refl wr.heap.size wr).alloc (Nat.le_refl _) (.cells #[.bool false, .int .i64 0, .int .i64 0, .int .i64 0] 133))).blk
      clear hlk
      go_wp2_with (first
        | (at_builtin; refine wpList_appendG cTy (by decide) encC_len encC_one rfl (.tmp 23) (.tmp 25) rfl A c (newR k).cs (by rw [HLK.out]; rfl) gin (some ⟨wr.heap.size, 0, none⟩) 1 [(false, 0, 0, 0)] rfl gnew (by rw [HLK.out]; simp only [maxLen, List.length_singleton]; omega) (by rw [HLK.out]; simp only [List.length_singleton]; omega) ?_; intro A4 c4 w4 g4 k4 q4; have b5 := k4.blk b4.out (fun i hs => HR.out.ne i (slFp_zero hs)); have x5 := b5.cell 0; have f5 := b5.frozen 0))
      have hlk2 : (newR (k + 1)).cs.length = k + 1 := List.length_replicate
      have hcs : (newR k).cs ++ [(false, 0, 0, 0)] = (newR (k + 1)).cs := by unfold newR; exact List.replicate_succ'.symm
      rw [hcs] at g4
      have B4 : Below w.heap.size w w4 := (HB.out.alloc HB.out.size _).trans (k4.below (by have := HB.out.size; simp; omega) fun j i hj hs => by have := HF.out j i (slFp_zero hs); omega)
      have f4 : ∀ j i, slFp 4 A4 0 c4 j i → w.heap.size ≤ j := fun j i hj => by
        rcases q4 with ⟨rfl, rfl⟩ | ⟨g', rfl, hg'⟩
        · exact HF.out j i hj
        · obtain ⟨o', e, _⟩ := hj; cases e; have := HB.out.size; simp at hg'; omega
      go_roundw
      case rel =>
        refine ⟨k + 1, A4, c4, by omega, by go_num, Lib.hid ⟨?_, ?_⟩, Lib.hid (B4.setCell (Nat.le_refl _) _), Lib.hid f4⟩
        · have := b5.set_ 0 (.slice A4 ((newR k).cs.length + 1) c4)
          rw [hlk2]
          have e := HLK.out
          rw [e] at this ⊢
          exact this
        · refine g4.chg (Chg.setCell (fun k _ => k = w.heap.size) w4 (g := w.heap.size) (i := 0) rfl _) encC_len fun j i hs e => ?_
          subst e
          exact absurd (slFp_type g4 (slFp_len g4 hs) b5) (by decide)
      case measure => simp [intOf]; omega
    · obtain rfl : k = n := by omega
      go_wp2
      go_ret2
      exact ⟨_, _, rfl, ⟨A, c, HR.out, by omega, fun _ _ => Iff.rfl⟩, HB.out, fun k' i hk => hk.elim (fun e => by omega) (HF.out k' i)⟩

/-! ### Slot, Refs -/
def rSlotI (cs : List Cel) (key : Int) : Int := match rSlot cs key with | none => -1 | some i => i
theorem rSlot_at {l : List Cel} {key : Int} {k : Nat} {u : Cel} (hu : l[k]? = some u) (e : u.1 = true ∧ u.2.1 = key) (hn : ∀ (j : Nat) (v : Cel), j < k → l[j]? = some v → ¬ (v.1 = true ∧ v.2.1 = key)) : rSlotI l key = k := by
  have hk := (List.getElem?_eq_some_iff.1 hu).1
  have : rSlot l key = some k := by
    unfold rSlot
    rw [List.findIdx?_eq_some_iff_getElem]
    refine ⟨hk, ?_, fun j hj => ?_⟩
    · rw [List.getElem?_eq_getElem hk] at hu; rw [Option.some.inj hu]; simpa using e
    · have := hn j l[j] hj (List.getElem?_eq_getElem (by omega)); simpa using this
  unfold rSlotI; rw [this]
theorem rSlot_no {l : List Cel} {key : Int} (hn : ∀ (j : Nat) (v : Cel), j < l.length → l[j]? = some v → ¬ (v.1 = true ∧ v.2.1 = key)) : rSlotI l key = -1 := by
  have : rSlot l key = none := by
    unfold rSlot
    rw [List.findIdx?_eq_none_iff]
    intro u hu
    obtain ⟨j, hj, rfl⟩ := List.getElem_of_mem hu
    have := hn j l[j] hj (List.getElem?_eq_getElem hj)
    simpa using this
  unfold rSlotI; rw [this]
set_option maxRecDepth 20000 in
set_option maxHeartbeats 4000000 in
theorem rslot_any (key : Int) (h : RIn w G r A c) (hl : r.cs.length ≤ 16) : Calls Try.prog 68 #[.pointer (some ⟨G, 0, none⟩), .int .i64 key] w fun e w' => e = .returned (.int .i64 (rSlotI r.cs key)) ∧ ∃ n, w' = w.drewN n := by
  obtain ⟨c0, c1⟩ := h.cells
  obtain ⟨L, hL⟩ : ∃ L, L = r.cs.length := ⟨_, rfl⟩
  rw [← hL] at c0 hl
  have HL := Lib.hid hL
  have HR := Lib.hid h.row.rds
  clear hL h c1
  go_enter Try.func68, Try.ntmps68
  go_wp2
  go_loopw [5] (fun t5 wr => ∃ k m : Nat, k ≤ L ∧ t5 = .int .i64 k ∧ wr = w.drewN m ∧ ∀ (j : Nat) (v : Cel), j < k → r.cs[j]? = some v → ¬ (v.1 = true ∧ v.2.1 = key)) (fun t5 _ => L - (intOf t5).toNat)
  case atStart => exact ⟨0, 0, by omega, rfl, rfl, fun j v hj => by omega⟩
  case round =>
    obtain ⟨k, m, hk, rfl, rfl, hh⟩ := hrel
    have HH := Lib.hid hh
    clear hh
    by_cases hlt : k < L
    · obtain ⟨g, o, x, rfl, _, hx, hc⟩ := HR.out.at_ (show k < r.cs.length by rw [← HL.out]; exact hlt)
      have x0 : w.cell? ⟨g, o + k * 4, none⟩ = some (.bool x.1) := hc 0 _ rfl
      have x1 : w.cell? ⟨g, o + k * 4 + 1, none⟩ = some (.int .i64 x.2.1) := hc 1 _ rfl
      have hlt' : (k : Int) < (L : Int) := by omega
      have Hx := Lib.hid hx
      clear hc hx
      have next : ¬ (x.1 = true ∧ x.2.1 = key) → ∀ (j : Nat) (v : Cel), j < k + 1 → r.cs[j]? = some v → ¬ (v.1 = true ∧ v.2.1 = key) := fun hn j v hj hv => by
        by_cases ej : j = k
        · subst ej; rw [Hx.out] at hv; cases hv; exact hn
        · exact HH.out j v (by omega) hv
      have HNx := Lib.hid next
      clear next
      obtain ⟨U, hU⟩ : ∃ U, U = x.1 := ⟨_, rfl⟩
      rw [← hU] at x0 HNx
      have HU := Lib.hid hU
      clear hU
      cases U with
      | false =>
        go_wp2
        go_roundw
        case rel => exact ⟨k + 1, _, by omega, by go_num, rfl, HNx.out fun h => by cases h.1⟩
        case measure => simp [intOf]; omega
      | true =>
        by_cases e : x.2.1 = key
        · have t : (x.2.1 == key) = true := by simpa using e
          have He := Lib.hid e
          clear e
          go_wp2
          go_ret
          exact ⟨by rw [rSlot_at Hx.out ⟨HU.out.symm, He.out⟩ HH.out]; rfl, _, rfl⟩
        · have t : (x.2.1 == key) = false := by simpa using e
          have He := Lib.hid e
          clear e
          go_wp2
          go_roundw
          case rel => exact ⟨k + 1, _, by omega, by go_num, rfl, HNx.out fun h => He.out h.2⟩
          case measure => simp [intOf]; omega
    · obtain rfl : k = L := by omega
      go_wp2
      go_ret
      exact ⟨by rw [rSlot_no (HL.out ▸ HH.out)]; rfl, _, rfl⟩
theorem rSlotI_cases (r : RLru) (key : Int) : (rSlotI r.cs key = -1 ∧ rSlot r.cs key = none) ∨ ∃ (i : Nat) (x : Cel), rSlotI r.cs key = (i : Int) ∧ rSlot r.cs key = some i ∧ r.cs[i]? = some x ∧ x.1 = true ∧ x.2.1 = key ∧ celAt r i = x := by
  unfold rSlotI
  cases hs : rSlot r.cs key with
  | none => exact .inl ⟨rfl, rfl⟩
  | some i =>
    unfold rSlot at hs
    rw [List.findIdx?_eq_some_iff_getElem] at hs
    obtain ⟨hi, h1, _⟩ := hs
    simp only [Bool.and_eq_true, beq_iff_eq] at h1
    exact .inr ⟨i, r.cs[i], rfl, rfl, List.getElem?_eq_getElem hi, h1.1, h1.2, by unfold celAt; rw [List.getElem?_eq_getElem hi]; rfl⟩
theorem rrefs_any (key : Int) (h : RIn w G r A c) (hl : r.cs.length ≤ 16) : Calls Try.prog 66 #[.pointer (some ⟨G, 0, none⟩), .int .i64 key] w fun e w' => e = .returned (.int .i64 (rRefs r key)) ∧ ∃ n, w' = w.drewN n := by
  have HS := Lib.hid (rslot_any key h hl)
  obtain ⟨c0, c1⟩ := h.cells
  rcases rSlotI_cases r key with ⟨e1, e2⟩ | ⟨i, x, e1, e2, hx, _, _, hce⟩
  · rw [e1] at HS
    have hr : rRefs r key = 0 := by unfold rRefs; rw [e2]
    rw [hr]
    clear hr e1 e2 h
    go_enter Try.func66, Try.ntmps66
    go_wp2_with (first
      | (go_at_call 68; (with_reducible refine HS.out.mono ?_); rintro e w' ⟨rfl, m2, rfl⟩))
    go_ret
    exact ⟨rfl, _, rfl⟩
  · rw [e1] at HS
    have hr : rRefs r key = x.2.2.1 := by unfold rRefs; rw [e2]; dsimp only; rw [hce]
    rw [hr]
    obtain ⟨g, o, rfl, _, hc⟩ := h.row.rds i x hx
    have x2 : w.cell? ⟨g, o + i * 4 + 2, none⟩ = some (.int .i64 x.2.2.1) := hc 2 _ rfl
    have hi := (List.getElem?_eq_some_iff.1 hx).1
    have hlt' : (i : Int) < (r.cs.length : Int) := by omega
    have hn0 : ¬ (i : Int) < 0 := by omega
    have h0 : (0 : Int) ≤ (i : Int) := by omega
    clear hr e1 e2 h hc hx hce
    go_enter Try.func66, Try.ntmps66
    go_wp2_with (first
      | (go_at_call 68; (with_reducible refine HS.out.mono ?_); rintro e w' ⟨rfl, m2, rfl⟩))
    go_ret
    exact ⟨rfl, _, rfl⟩
end
end Go.Proofs.Ytiidheknlacioaa
