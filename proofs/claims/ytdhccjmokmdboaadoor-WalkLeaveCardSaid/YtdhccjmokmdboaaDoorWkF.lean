/- Package walk: New, by contract. -/
import Derived.Test.YtdhccjmokmdboaaDoorWkE
namespace Go.Proofs.YtdhccjmokmdboaaDoor
open Go.RowKit
set_option linter.unusedVariables false
set_option linter.unusedSimpArgs false
attribute [local go_sem] Oper.semAt_some
abbrev encNat (n : Nat) : List Value := [.int .i64 (n : Int)]
theorem encNat_len (s : Nat) : (encNat s).length = 1 := rfl
theorem encNat_one (s : Nat) : ∀ v ∈ encNat s, v.oneCell' = true := fun v hv => by obtain rfl := List.mem_singleton.1 hv; rfl
theorem intTy : SlTy Tryd.prog 59 3 1 8 := SlTy.mk' (z := .int .i64 0) Tryd.underlying59 (by kernel_rfl) rfl
/-- the walker of package walk in memory: the bits that are still to come -/
def WkIn (w : World) (K : Nat) (bits : List Nat) (A : Option Addr) (c : Nat) : Prop := Blk w K 61 #[.slice A bits.length c] ∧ GSl encNat 1 3 w A c bits
theorem slFp_len {α : Type} {enc : α → List Value} {e : TypeId} {w : World} {sz : Nat} {A : Option Addr} {c : Nat} {l : List α} (h : GSl enc sz e w A c l) {g i : Nat} (hs : slFp sz A 0 l.length g i) : slFp sz A 0 c g i := by
  obtain ⟨o, ho, h1, h2⟩ := hs
  exact ⟨o, ho, h1, Nat.lt_of_lt_of_le h2 (by have := Nat.mul_le_mul_right sz h.le; omega)⟩
theorem slFp_lt {α : Type} {enc : α → List Value} {e : TypeId} {w : World} {sz : Nat} {A : Option Addr} {c : Nat} {l : List α} (h : GSl enc sz e w A c l) {g i : Nat} (hs : slFp sz A 0 c g i) : g < w.heap.size := by
  obtain ⟨o, ho, _⟩ := hs
  rcases h with ⟨rfl, _⟩ | ⟨g', o', cs, rfl, _, _, hb, _⟩
  · cases ho
  · cases ho; exact Chg.lt hb
/-- a slot of a slice's own: fresh rows from B on -/
def fromB (B : Nat) (A : Option Addr) (c : Nat) : Prop := ∀ k i, slFp 1 A 0 c k i → B ≤ k
/-- the walk: from s up to the end, then from 0 up to s -/
def walkL (ws : List Nat) (n s : Nat) : List Nat := ((setsL ws n).filter fun b => !decide (b < s)) ++ (setsL ws n).filter fun b => decide (b < s)
/-- between two rounds of New's loop: what has come is parted -/
structure NewP (w0 : World) (B n s : Nat) (ws us : List Nat) (M gw ga Sx Wk : Nat) (pre : List Nat) (W : World) : Prop where
  bm : BmOk W M n ws gw ga us
  sx : Blk W Sx 3 #[.int .i64 (s : Int)]
  bw : Blk W (Wk + 1) 23 #[.pointer (some ⟨Wk, 0, none⟩)]
  bx : Blk W (Wk + 3) 56 #[.pointer (some ⟨M, 0, none⟩)]
  be : ∃ A c, Blk W (Wk + 2) 59 #[.slice A (pre.filter fun b => decide (b < s)).length c] ∧ GSl encNat 1 3 W A c (pre.filter fun b => decide (b < s)) ∧ fromB (Wk + 6) A c ∧
    ∃ A' c', WkIn W Wk (pre.filter fun b => !decide (b < s)) A' c' ∧ fromB (Wk + 6) A' c' ∧ ∀ k i, slFp 1 A 0 c k i → ¬ slFp 1 A' 0 c' k i
  bel : Below B w0 W
  lt : B ≤ Wk ∧ M < Wk ∧ gw < Wk ∧ ga < Wk ∧ Sx < Wk ∧ 0 < Wk ∧ B ≤ W.heap.size
section
variable {w0 W W' : World} {B n s M gw ga Sx Wk : Nat} {ws us pre : List Nat} {F : Nat → Nat → Prop}
theorem NewP.chg (h : NewP w0 B n s ws us M gw ga Sx Wk pre W) (hc : Chg F W W') (hF : ∀ k i, F k i → k = Wk + 4 ∨ k = Wk + 5) : NewP w0 B n s ws us M gw ga Sx Wk pre W' := by
  obtain ⟨A, c, e1, e2, e3, A', c', e4, e5, e6⟩ := h.be
  have hlt := h.lt
  have nf : ∀ k, k < Wk + 4 ∨ Wk + 6 ≤ k → ∀ i, ¬ F k i := fun k hk i hf => by have := hF k i hf; omega
  refine ⟨h.bm.chg hc (nf _ (by omega)) (nf _ (by omega)) (nf _ (by omega)) (nf _ (by omega)), hc.blk h.sx (nf _ (by omega)), hc.blk h.bw (nf _ (by omega)), hc.blk h.bx (nf _ (by omega)),
    ⟨A, c, hc.blk e1 (nf _ (by omega)), e2.chg hc encNat_len (fun k i hs => nf k (.inr (e3 k i (slFp_len e2 hs))) i), e3, A', c', ⟨hc.blk e4.1 (nf _ (by omega)), e4.2.chg hc encNat_len (fun k i hs => nf k (.inr (e5 k i (slFp_len e4.2 hs))) i)⟩, e5, e6⟩,
    h.bel.trans (hc.below (by omega) fun k i hk hf => by have := hF k i hf; omega), by have := hc.size; omega⟩
/-- one more has come, ahead of the start -/
theorem NewP.early (h : NewP w0 B n s ws us M gw ga Sx Wk pre W) {x : Nat} (hx : x < s) (hD : Wk + 6 ≤ W.heap.size) {E Lt : List Nat} (hE : E = pre.filter fun b => decide (b < s)) (hLt : Lt = pre.filter fun b => !decide (b < s)) {A Aw A' : Option Addr} {c cw c' : Nat} (e2 : GSl encNat 1 3 W A c E) (e3 : fromB (Wk + 6) A c) (e4 : WkIn W Wk Lt Aw cw) (e5 : fromB (Wk + 6) Aw cw) (e6 : ∀ k i, slFp 1 A 0 c k i → ¬ slFp 1 Aw 0 cw k i)
    {V w2 : World} (hV : Chg (fun k _ => W.heap.size ≤ k) W V) (g : GSl encNat 1 3 w2 A' c' (E ++ [x])) (hc : Chg (slFp 1 A E.length c) V w2) (hA : (A' = A ∧ c' = c) ∨ ∃ g, A' = some ⟨g, 0, none⟩ ∧ V.heap.size ≤ g) (hb : ∃ v, Blk W (Wk + 2) 59 #[v]) :
    NewP w0 B n s ws us M gw ga Sx Wk (pre ++ [x]) (w2.setCell ⟨Wk + 2, 0, none⟩ (.slice A' (E ++ [x]).length c')) ∧ (w2.setCell ⟨Wk + 2, 0, none⟩ (.slice A' (E ++ [x]).length c')).heap[Wk + 4]? = W.heap[Wk + 4]? ∧ (w2.setCell ⟨Wk + 2, 0, none⟩ (.slice A' (E ++ [x]).length c')).heap[Wk + 5]? = W.heap[Wk + 5]? := by
  have hlt := h.lt
  have hs2 : W.heap.size ≤ V.heap.size := hV.size
  have c2 : Chg (fun k i => slFp 1 A 0 c k i ∨ W.heap.size ≤ k) W w2 := (hV.mono (F' := fun k i => slFp 1 A 0 c k i ∨ W.heap.size ≤ k) fun k i _ h => .inr h).trans (hc.mono (F' := fun k i => slFp 1 A 0 c k i ∨ W.heap.size ≤ k) fun k i _ h => .inl (slFp_zero h)) fun _ _ _ h => h
  have c3 := Chg.setCell (fun k i => (slFp 1 A 0 c k i ∨ W.heap.size ≤ k) ∨ k = Wk + 2) w2 (g := Wk + 2) (i := 0) (.inr rfl) (.slice A' (E ++ [x]).length c')
  have cc : Chg (fun k i => (slFp 1 A 0 c k i ∨ W.heap.size ≤ k) ∨ k = Wk + 2) W _ := (c2.mono (F' := fun k i => (slFp 1 A 0 c k i ∨ W.heap.size ≤ k) ∨ k = Wk + 2) fun k i _ h => .inl h).trans c3 fun _ _ _ h => h
  have nf : ∀ k, k < Wk + 6 → k ≠ Wk + 2 → ∀ i, ¬ ((slFp 1 A 0 c k i ∨ W.heap.size ≤ k) ∨ k = Wk + 2) := fun k hk hn i hf => by
    rcases hf with (hf | hf) | hf
    · have := e3 k i hf; omega
    · omega
    · exact hn hf
  have hfe : (pre ++ [x]).filter (fun b => decide (b < s)) = E ++ [x] := by rw [List.filter_append, ← hE]; simp [hx]
  have hfl : (pre ++ [x]).filter (fun b => !decide (b < s)) = Lt := by rw [List.filter_append, ← hLt]; simp [hx]
  have cell2 : Chg (fun k i => k = Wk + 2) w2 (w2.setCell ⟨Wk + 2, 0, none⟩ (.slice A' (E ++ [x]).length c')) := Chg.setCell (fun k _ => k = Wk + 2) w2 (g := Wk + 2) (i := 0) rfl _
  have hA6 : fromB (Wk + 6) A' c' := fun k i hs => by
    rcases hA with ⟨rfl, rfl⟩ | ⟨g', rfl, hg⟩
    · exact e3 k i hs
    · obtain ⟨o, e, _⟩ := hs; cases e; omega
  refine ⟨⟨h.bm.chg cc (nf _ (by omega) (by omega)) (nf _ (by omega) (by omega)) (nf _ (by omega) (by omega)) (nf _ (by omega) (by omega)), cc.blk h.sx (nf _ (by omega) (by omega)), cc.blk h.bw (nf _ (by omega) (by omega)), cc.blk h.bx (nf _ (by omega) (by omega)),
    ⟨A', c', ?_, ?_, hA6, Aw, cw, ⟨?_, ?_⟩, e5, fun k i hs hw => ?_⟩, h.bel.trans (cc.below (by omega) fun k i hk hf => nf k (by omega) (by omega) i hf), by have := cc.size; omega⟩, cc.far _ (by omega) (nf _ (by omega) (by omega)), cc.far _ (by omega) (nf _ (by omega) (by omega))⟩
  · obtain ⟨v, hb⟩ := hb
    rw [hfe]
    have hb2 : ∃ v2, Blk w2 (Wk + 2) 59 #[v2] := ⟨v, c2.blk hb fun i hf => by
      rcases hf with hf | hf
      · have := e3 _ i hf; omega
      · have := hb.lt; omega⟩
    obtain ⟨v2, hb2⟩ := hb2
    exact hb2.set_ 0 _
  · rw [hfe]; exact g.chg cell2 encNat_len fun k i hs e => by have := hA6 k i (slFp_len g hs); omega
  · rw [hfl]; exact cc.blk e4.1 (nf _ (by omega) (by omega))
  · rw [hfl]
    refine e4.2.chg cc encNat_len fun k i hs hf => ?_
    have hs' := slFp_len e4.2 hs
    rcases hf with (hf | hf) | hf
    · exact e6 k i hf hs'
    · have := slFp_lt e4.2 hs'; omega
    · have := e5 k i hs'; omega
  · rcases hA with ⟨rfl, rfl⟩ | ⟨g', rfl, hg⟩
    · exact e6 k i hs hw
    · obtain ⟨o, e, _⟩ := hs
      cases e
      have := slFp_lt e4.2 hw
      omega
/-- one more has come, from the start on -/
theorem NewP.late (h : NewP w0 B n s ws us M gw ga Sx Wk pre W) {x : Nat} (hx : ¬ x < s) (hD : Wk + 6 ≤ W.heap.size) {E Lt : List Nat} (hE : E = pre.filter fun b => decide (b < s)) (hLt : Lt = pre.filter fun b => !decide (b < s)) {A Aw A' : Option Addr} {c cw c' : Nat} (e2 : GSl encNat 1 3 W A c E) (e3 : fromB (Wk + 6) A c) (e4 : WkIn W Wk Lt Aw cw) (e5 : fromB (Wk + 6) Aw cw) (e6 : ∀ k i, slFp 1 A 0 c k i → ¬ slFp 1 Aw 0 cw k i) (e1 : Blk W (Wk + 2) 59 #[.slice A E.length c])
    {V w2 : World} (hV : Chg (fun k _ => W.heap.size ≤ k) W V) (g : GSl encNat 1 3 w2 A' c' (Lt ++ [x])) (hc : Chg (slFp 1 Aw Lt.length cw) V w2) (hA : (A' = Aw ∧ c' = cw) ∨ ∃ g, A' = some ⟨g, 0, none⟩ ∧ V.heap.size ≤ g) :
    NewP w0 B n s ws us M gw ga Sx Wk (pre ++ [x]) (w2.setCell ⟨Wk, 0, none⟩ (.slice A' (Lt ++ [x]).length c')) ∧ (w2.setCell ⟨Wk, 0, none⟩ (.slice A' (Lt ++ [x]).length c')).heap[Wk + 4]? = W.heap[Wk + 4]? ∧ (w2.setCell ⟨Wk, 0, none⟩ (.slice A' (Lt ++ [x]).length c')).heap[Wk + 5]? = W.heap[Wk + 5]? := by
  have hlt := h.lt
  have hs2 : W.heap.size ≤ V.heap.size := hV.size
  have c2 : Chg (fun k i => slFp 1 Aw 0 cw k i ∨ W.heap.size ≤ k) W w2 := (hV.mono (F' := fun k i => slFp 1 Aw 0 cw k i ∨ W.heap.size ≤ k) fun k i _ h => .inr h).trans (hc.mono (F' := fun k i => slFp 1 Aw 0 cw k i ∨ W.heap.size ≤ k) fun k i _ h => .inl (slFp_zero h)) fun _ _ _ h => h
  have c3 := Chg.setCell (fun k i => (slFp 1 Aw 0 cw k i ∨ W.heap.size ≤ k) ∨ k = Wk) w2 (g := Wk) (i := 0) (.inr rfl) (.slice A' (Lt ++ [x]).length c')
  have cc : Chg (fun k i => (slFp 1 Aw 0 cw k i ∨ W.heap.size ≤ k) ∨ k = Wk) W _ := (c2.mono (F' := fun k i => (slFp 1 Aw 0 cw k i ∨ W.heap.size ≤ k) ∨ k = Wk) fun k i _ h => .inl h).trans c3 fun _ _ _ h => h
  have nf : ∀ k, k < Wk + 6 → k ≠ Wk → ∀ i, ¬ ((slFp 1 Aw 0 cw k i ∨ W.heap.size ≤ k) ∨ k = Wk) := fun k hk hn i hf => by
    rcases hf with (hf | hf) | hf
    · have := e5 k i hf; omega
    · omega
    · exact hn hf
  have hfe : (pre ++ [x]).filter (fun b => decide (b < s)) = E := by rw [List.filter_append, ← hE]; simp [hx]
  have hfl : (pre ++ [x]).filter (fun b => !decide (b < s)) = Lt ++ [x] := by rw [List.filter_append, ← hLt]; simp [hx]
  have cell2 : Chg (fun k i => k = Wk) w2 (w2.setCell ⟨Wk, 0, none⟩ (.slice A' (Lt ++ [x]).length c')) := Chg.setCell (fun k _ => k = Wk) w2 (g := Wk) (i := 0) rfl _
  have hA6 : fromB (Wk + 6) A' c' := fun k i hs => by
    rcases hA with ⟨rfl, rfl⟩ | ⟨g', rfl, hg⟩
    · exact e5 k i hs
    · obtain ⟨o, e, _⟩ := hs; cases e; omega
  refine ⟨⟨h.bm.chg cc (nf _ (by omega) (by omega)) (nf _ (by omega) (by omega)) (nf _ (by omega) (by omega)) (nf _ (by omega) (by omega)), cc.blk h.sx (nf _ (by omega) (by omega)), cc.blk h.bw (nf _ (by omega) (by omega)), cc.blk h.bx (nf _ (by omega) (by omega)),
    ⟨A, c, ?_, ?_, e3, A', c', ⟨?_, ?_⟩, hA6, fun k i hs hw => ?_⟩, h.bel.trans (cc.below (by omega) fun k i hk hf => nf k (by omega) (by omega) i hf), by have := cc.size; omega⟩, cc.far _ (by omega) (nf _ (by omega) (by omega)), cc.far _ (by omega) (nf _ (by omega) (by omega))⟩
  · rw [hfe]; exact cc.blk e1 (nf _ (by omega) (by omega))
  · rw [hfe]
    refine e2.chg cc encNat_len fun k i hs hf => ?_
    have hs' := slFp_len e2 hs
    rcases hf with (hf | hf) | hf
    · exact e6 k i hs' hf
    · have := slFp_lt e2 hs'; omega
    · have := e3 k i hs'; omega
  · rw [hfl]
    have hb2 : Blk w2 Wk 61 #[.slice Aw Lt.length cw] := c2.blk e4.1 fun i hf => by
      rcases hf with hf | hf
      · have := e5 _ i hf; omega
      · have := e4.1.lt; omega
    exact hb2.set_ 0 _
  · rw [hfl]; exact g.chg cell2 encNat_len fun k i hs e => by have := hA6 k i (slFp_len g hs); omega
  · rcases hA with ⟨rfl, rfl⟩ | ⟨g', rfl, hg⟩
    · exact e6 k i hs hw
    · obtain ⟨o, e, _⟩ := hw
      cases e
      have := slFp_lt e2 hs
      omega
theorem NewP.stable (h : B ≤ w0.heap.size) {D : Nat} (hD : D = Wk + 4) : Stable2 D (NewP w0 B n s ws us M gw ga Sx Wk pre) := fun W W' hp hc => hp.chg hc fun k i hk => by omega
end
section
variable {w : World} {n s : Nat} {ws : List Nat} {A : Option Addr} {c : Nat}
set_option maxRecDepth 100000 in
set_option maxHeartbeats 4000000 in
theorem wnew_yes (h1 : 1 ≤ n) (hn : n ≤ 65536) (hs : s ≤ n) (hl : ws.length ≤ 9223372036854775807) (hb : ∀ x ∈ ws, x < 18446744073709551616) (hr : Rd encU w A ws) (ht : TabW w) (hv : vldE n ws = 0) :
    Calls Tryd.prog 7 #[.int .i64 (n : Int), .slice A ws.length c, .int .i64 (s : Int)] w fun e w' => ∃ (K : Nat) (A' : Option Addr) (c' : Nat), e = .returned (.tuple #[.pointer (some ⟨K, 0, none⟩), .int .i64 0]) ∧ WkIn w' K (walkL ws n s) A' c' ∧ Below w.heap.size w w' ∧ w.heap.size ≤ K ∧ fromB w.heap.size A' c' := by
  have FR := Lib.hid (fun w' (h : Rd encU w' A ws) => bm_from_any n h1 hn A c ws hl hb w' h)
  have HR := Lib.hid hr
  have HV := Lib.hid hv
  have HT := Lib.hid ht
  have a1 : ¬ (n : Int) < 1 := by omega
  have a2 : ¬ (65536 : Int) < (n : Int) := by omega
  have a3 : ¬ (s : Int) < 0 := by omega
  have a4 : ¬ (n : Int) < (s : Int) := by omega
  obtain ⟨L, hL⟩ : ∃ L, L = ws.length := ⟨_, rfl⟩
  rw [← hL] at FR ⊢
  have HL := Lib.hid hL
  obtain ⟨Z, hZ⟩ : ∃ Z, Z = w.heap.size := ⟨_, rfl⟩
  have HZ := Lib.hid hZ
  have FR1 := Lib.hid (FR.out _ (HR.out.alloc (.cells #[.int .i64 (s : Int)] 3)))
  clear hL hZ hr hv ht hl hb
  refine (callsIn_wide (n := 9)).1 ?_
  refine callsIn_of_wp_marks Tryd.func7 rfl trivial ?_ rfl
  simp only [Tryd.ntmps7, List.size_toArray, List.length_cons, List.length_nil, Nat.reduceAdd, Nat.reduceSub, Array.replicate_succ, Array.replicate_zero, List.push_toArray, List.append_toArray, List.nil_append, List.cons_append]
  gi_wp2_with (first
    | (refine ⟨trivial, ?_⟩; gi_at_call 21; refine (callsIn_wide.2 FR1.out).mono ?_; rintro e w1 hf; obtain ⟨hv0, _⟩ | ⟨ok, M, gw, ga, us, rfl, bm, ab, ub, ul, B1, k1, k2, k3⟩ := hf; exact absurd HV.out hv0; have HBM := Lib.hid bm; have HAB := Lib.hid ab; have HUB := Lib.hid ub; have HUL := Lib.hid ul; have HB1 := Lib.hid B1; clear bm ab ub ul B1)
    | (refine ⟨trivial, ?_⟩; gi_at_call 22; refine (callsIn_wide.2 (all_any _)).mono ?_; rintro e w2 ⟨rfl, rfl⟩))
  obtain ⟨Wk, hWk⟩ : ∃ Wk, Wk = w1.heap.size := ⟨_, rfl⟩
  obtain ⟨w4, hw4⟩ : ∃ W, W = ((((w1.alloc (.cells #[.slice none 0 0] 61)).alloc (.cells #[.pointer (some ⟨w1.heap.size, 0, none⟩)] 23)).alloc (.cells #[.slice none 0 0] 59)).alloc (.cells #[.pointer (some ⟨M, 0, none⟩)] 56)) := ⟨_, rfl⟩
  rw [← hw4, ← hWk]
  have s4 : w4.heap.size = Wk + 4 := by rw [hw4, hWk]; simp
  have N0 : NewP w w.heap.size n s ws us M gw ga w.heap.size Wk [] w4 := by
    have sz1 := HB1.out.size
    rw [World.size_alloc] at sz1 k1 k2 k3
    have lm := HBM.out.lt
    have tb : 0 < w.heap.size := by
      have := World.block_lt_of_cell? w _ (HT.out 0 (by decide))
      exact this
    have c14 : Chg (fun k _ => w1.heap.size ≤ k) w1 w4 := by
      rw [hw4]
      exact (((Chg.alloc _ _ _).trans (Chg.alloc (fun k _ => w1.heap.size ≤ k) _ _) fun _ _ _ h => h).trans (Chg.alloc (fun k _ => w1.heap.size ≤ k) _ _) fun _ _ _ h => h).trans (Chg.alloc (fun k _ => w1.heap.size ≤ k) _ _) fun _ _ _ h => h
    have b0 := Blk.new w1 61 #[.slice none 0 0]
    have b1 := Blk.new (w1.alloc (.cells #[.slice none 0 0] 61)) 23 #[.pointer (some ⟨w1.heap.size, 0, none⟩)]
    have b2 := Blk.new ((w1.alloc (.cells #[.slice none 0 0] 61)).alloc (.cells #[.pointer (some ⟨w1.heap.size, 0, none⟩)] 23)) 59 #[.slice none 0 0]
    have b3 := Blk.new (((w1.alloc (.cells #[.slice none 0 0] 61)).alloc (.cells #[.pointer (some ⟨w1.heap.size, 0, none⟩)] 23)).alloc (.cells #[.slice none 0 0] 59)) 56 #[.pointer (some ⟨M, 0, none⟩)]
    simp only [World.size_alloc] at b1 b2 b3
    rw [← hWk] at b0 b1 b2 b3
    have S0 : Blk (w.alloc (.cells #[.int .i64 (s : Int)] 3)) w.heap.size 3 #[.int .i64 (s : Int)] := Blk.new w _ _
    have T1 : TabW w1 := (HT.out.below ((Below.refl _ w).alloc (Nat.le_refl _) _) tb).below HB1.out (by rw [World.size_alloc]; omega)
    have hsl : ∀ (k i : Nat), ¬ slFp 1 none 0 0 k i := fun k i ⟨_, e, _⟩ => by cases e
    refine ⟨(⟨HBM.out, ok, HAB.out, HUB.out, by rw [HUL.out, HL.out], T1⟩ : BmOk w1 M n ws gw ga us).chg c14 (fun _ h => by omega) (fun _ h => by omega) (fun _ h => by omega) (fun _ h => by omega), c14.blk (S0.below HB1.out (by rw [World.size_alloc]; omega)) fun _ h => by omega, ?_, ?_, ⟨none, 0, ?_, GSl.nil_, fun k i h => absurd h (hsl k i), none, 0, ⟨?_, GSl.nil_⟩, fun k i h => absurd h (hsl k i), fun k i h => absurd h (hsl k i)⟩, ?_, ?_⟩
    · rw [hw4, ← hWk]; exact (b1.alloc _).alloc _
    · rw [hw4, ← hWk]; exact b3
    · rw [hw4, ← hWk]; exact b2.alloc _
    · rw [hw4, ← hWk]; exact ((b0.alloc _).alloc _).alloc _
    · exact (((Below.refl _ w).alloc (Nat.le_refl _) _).trans (HB1.out.mono (by rw [World.size_alloc]; omega))).trans (c14.below (by omega) fun k i hk h => by omega)
    · omega
  have HN0 := Lib.hid N0
  have S4 := Lib.hid s4
  have HWk := Lib.hid hWk
  clear N0 hw4 hWk k1 k2 k3 HBM HAB HUB HUL HB1 FR FR1
  refine rf_free (σ := Unit) (α := Nat) rfl (by omega) (gf := 30) (lb := #[.pointer (some ⟨Wk + 1 + 1 + 1, 0, none⟩)]) rfl trivial (enters_of Tryd.func30 (by kernel_rfl) rfl)
    (fun x => #[.int .i64 (x : Int)]) (fun _ => rfl)
    (fun _ i W => (i < n ∧ bitW ws i = true) ∧ NewP w w.heap.size n s ws us M gw ga w.heap.size Wk (setsL ws i) W)
    (fun _ i W => NewP w w.heap.size n s ws us M gw ga w.heap.size Wk (setsL ws (i + 1)) W)
    (NewP w w.heap.size n s ws us M gw ga w.heap.size Wk (setsL ws n)) (fun _ _ => False)
    (fun _ i => fun W W' h hc => ⟨h.1, NewP.stable (Nat.le_refl _) S4.out W W' h.2 hc⟩) (fun _ i => NewP.stable (Nat.le_refl _) S4.out) (NewP.stable (Nat.le_refl _) S4.out) (fun _ _ _ h _ => h) ?round ?seq ?done ?stop
  case seq =>
    intro l Lp Dn W hLp hDn hY hB hsz hl
    refine (all_iter (M := M) (gw := gw) (ga := ga) (us := us) (9 - 1) (by omega) l (Wk + 3) hn (NewP w w.heap.size n s ws us M gw ga w.heap.size Wk) Lp (fun _ => False) (fun pre W h => ⟨h.bm, h.bx.cell 0⟩) (fun i W hi hbi hp hlp => ?_) W (HN0.out.chg (Chg.of_below (fun _ _ => False) hB) fun _ _ h => h.elim) hl).mono ?_
    · refine (hY () i W ⟨⟨hi, hbi⟩, hp⟩ hlp).mono ?_
      rintro e W' (⟨h1, h2, h3⟩ | ⟨h1, c, h2, _⟩)
      · exact .inl ⟨h1, h2, h3⟩
      · exact h2.elim
    · rintro e W' ⟨h1, h2 | h2⟩
      · exact ⟨h1, .inl h2⟩
      · exact h2.elim
  case stop => exact fun c W h _ => h.elim
  case round =>
    intro l u x W hi
    gi_wp2
    refine ⟨trivial, fun W2 hs2 hi2 => ?_⟩
    obtain ⟨⟨hxn, hbx⟩, hp⟩ := hi2
    have HP := Lib.hid hp
    obtain ⟨Ae, ce, e1, e2, e3, Aw, cw, e4, e5, e6⟩ := hp.be
    obtain ⟨E, hE⟩ : ∃ E, E = (setsL ws x).filter fun b => decide (b < s) := ⟨_, rfl⟩
    obtain ⟨Lt, hLt⟩ : ∃ Lt, Lt = (setsL ws x).filter fun b => !decide (b < s) := ⟨_, rfl⟩
    rw [← hE] at e1 e2
    rw [← hLt] at e4
    have sx0 : W2.cell? ⟨w.heap.size, 0, none⟩ = some (.int .i64 (s : Int)) := hp.sx.cell 0
    have be0 : W2.cell? ⟨Wk + 1 + 1, 0, none⟩ = some (.slice Ae E.length ce) := e1.cell 0
    have bef : W2.frozen? ⟨Wk + 1 + 1, 0, none⟩ = false := e1.frozen 0
    have bw0 : W2.cell? ⟨Wk + 1, 0, none⟩ = some (.pointer (some ⟨Wk, 0, none⟩)) := hp.bw.cell 0
    have wk0 : W2.cell? ⟨Wk, 0, none⟩ = some (.slice Aw Lt.length cw) := e4.1.cell 0
    have wkf : W2.frozen? ⟨Wk, 0, none⟩ = false := e4.1.frozen 0
    have E1 := Lib.hid e1
    have E2 := Lib.hid e2
    have E3 := Lib.hid e3
    have E4 := Lib.hid e4
    have E5 := Lib.hid e5
    have E6 := Lib.hid e6
    have HE := Lib.hid hE
    have HLt := Lib.hid hLt
    have HSX := Lib.hid (show setsL ws (x + 1) = setsL ws x ++ [x] by rw [setsL_succ, hbx]; rfl)
    have hEl : E.length ≤ 65536 := by rw [hE]; exact Nat.le_trans (List.length_filter_le _ _) (Nat.le_trans (setsL_len _ _) (by omega))
    have hLl : Lt.length ≤ 65536 := by rw [hLt]; exact Nat.le_trans (List.length_filter_le _ _) (Nat.le_trans (setsL_len _ _) (by omega))
    clear e1 e2 e3 e4 e5 e6 hE hLt hp hi
    by_cases hxs : x < s
    · have hxsi : (x : Int) < (s : Int) := by omega
      have GA := Lib.hid (E2.out.chg (Chg.alloc (fun _ _ => False) W2 (.cells #[.int .i64 (x : Int)] 3)) encNat_len fun _ _ _ h => h)
      have Rn := Lib.hid (show RdS encNat 1 (W2.alloc (.cells #[.int .i64 (x : Int)] 3)) (some ⟨W2.heap.size, 0, none⟩) [x] from RdS.new1 encNat 1 W2 3 x)
      gi_wp2_with (gi_at_builtin; refine wpListIn_appendG intTy (by decide) encNat_len encNat_one rfl (.tmp 43) (.tmp 45) rfl Ae ce E rfl GA.out (some ⟨W2.heap.size, 0, none⟩) 1 [x] rfl Rn.out (by simp only [maxLen, List.length_singleton]; omega) (by simp only [List.length_singleton]; omega) ?_; intro A6 c6 w8 h8 k8 q8; have B8 : Blk w8 (Wk + 1 + 1) 59 #[.slice Ae E.length ce] := k8.blk (E1.out.alloc _) (fun i hs => by have := E3.out _ _ (slFp_zero hs); omega); have be8 := B8.cell 0; have bf8 := B8.frozen 0; have FI := Lib.hid (HP.out.early hxs (by have := S4.out; omega) HE.out HLt.out E2.out E3.out E4.out E5.out E6.out (Chg.alloc _ W2 _) h8 k8 q8 ⟨_, E1.out⟩); clear B8 h8 k8 q8)
      obtain ⟨f1, f2, f3⟩ := FI.out
      rw [List.length_append, List.length_singleton] at f1 f2 f3
      refine ⟨by rw [S4.out]; exact f2, by rw [S4.out]; exact f3, ?_⟩
      show NewP w w.heap.size n s ws us M gw ga w.heap.size Wk (setsL ws (x + 1)) _
      rw [HSX.out]
      exact f1
    · have hxsi : ¬ (x : Int) < (s : Int) := by omega
      gi_wp2_with fail
      have hmix : Tryd.prog.follows .mixedOrders = true := by kernel_rfl
      have GB := E4.out.2.chg ((Chg.alloc (fun _ _ => False) W2 (.cells #[.int .i64 (x : Int)] 3)).drew) encNat_len fun _ _ _ h => h
      have Rn : RdS encNat 1 (W2.alloc (.cells #[.int .i64 (x : Int)] 3)).drew (some ⟨W2.heap.size, 0, none⟩) [x] := RdS.new1 encNat 1 W2 3 x
      refine region_round (fun w' => w'.cell? ⟨Wk + 1, 0, none⟩ = some (.pointer (some ⟨Wk, 0, none⟩))) hmix (by kernel_rfl) (fun h => by obtain ⟨_, _, h⟩ := h; exact h) ?_
      have bwV : (W2.alloc (.cells #[.int .i64 (x : Int)] 3)).drew.cell? ⟨Wk + 1, 0, none⟩ = some (.pointer (some ⟨Wk, 0, none⟩)) := (HP.out.bw.alloc _).cell 0
      have wkV : (W2.alloc (.cells #[.int .i64 (x : Int)] 3)).drew.cell? ⟨Wk, 0, none⟩ = some (.slice Aw Lt.length cw) := (E4.out.1.alloc _).cell 0
      have hHeld : W2.drew.cell? ⟨Wk + 1, 0, none⟩ = some (.pointer (some ⟨Wk, 0, none⟩)) := bw0
      refine take_on (i := 0) (some 47) (v := ?v1) rfl rfl (by kernel_rfl) (by kernel_rfl) (by kernel_rfl) (fun _ _ _ h => h) (by rfl) ?hy1 (by assumption) ?rest1
      case hy1 => (intro wS hSw; (try dsimp only at hSw); go_simp; try with_reducible rfl)
      try simp only [Act.put, List.setIfInBounds_toArray, List.set_cons_zero, List.set_cons_succ]
      refine take_on (i := 1) (some 48) (v := ?v2) rfl rfl (by kernel_rfl) (by kernel_rfl) (by kernel_rfl) (fun _ _ _ h => h) (by rfl) ?hy2 (by assumption) ?rest2
      case hy2 => (intro wS hSw; (try dsimp only at hSw); go_simp; try with_reducible rfl)
      try simp only [Act.put, List.setIfInBounds_toArray, List.set_cons_zero, List.set_cons_succ]
      refine take_on (i := 2) (some 49) (v := ?v3) rfl rfl (by kernel_rfl) (by kernel_rfl) (by kernel_rfl) (fun _ _ _ h => h) (by rfl) ?hy3 (by assumption) ?rest3
      case hy3 => (intro wS hSw; (try dsimp only at hSw); go_simp; try with_reducible rfl)
      try simp only [Act.put, List.setIfInBounds_toArray, List.set_cons_zero, List.set_cons_succ]
      refine take_on (i := 3) (some 50) (v := ?v4) rfl rfl (by kernel_rfl) (by kernel_rfl) (by kernel_rfl) (fun _ _ _ h => h) (by rfl) ?hy4 (by assumption) ?rest4
      case hy4 => (intro wS hSw; (try dsimp only at hSw); go_simp; try with_reducible rfl)
      try simp only [Act.put, List.setIfInBounds_toArray, List.set_cons_zero, List.set_cons_succ]
      refine take_on (i := 5) (some 52) (v := ?v5) rfl rfl (by kernel_rfl) (by kernel_rfl) (by kernel_rfl) (fun _ _ _ h => h) (by rfl) ?hy5 (by assumption) ?rest5
      case hy5 => (intro wS hSw; (try dsimp only at hSw); go_simp; try with_reducible rfl)
      try simp only [Act.put, List.setIfInBounds_toArray, List.set_cons_zero, List.set_cons_succ]
      refine wpAnyH_ready (rs := [4, 6]) (by kernel_rfl) (by simp) ?_
      refine AllReadyH.cons rfl (fun K hK => ?_) (AllReadyH.cons rfl (fun K hK => ?_) AllReadyH.nil)
      · go_simp
        refine hK.out _ _ (by exact bw0) (fun hHeld => ?_)
        clear hK K
        try simp only [Act.put, List.setIfInBounds_toArray, List.set_cons_zero, List.set_cons_succ]
        refine wpAnyH_ready (rs := [6]) (by kernel_rfl) (by simp) ?_
        refine AllReadyH.cons rfl (fun K hK => ?_) AllReadyH.nil
        go_simp
        refine hK.out _ _ (by exact bwV) (fun hHeld => ?_)
        clear hK K
        try simp only [Act.put, List.setIfInBounds_toArray, List.set_cons_zero, List.set_cons_succ]
        refine wpAnyH_ready (rs := [7]) (by kernel_rfl) (by simp) ?_
        refine AllReadyH.cons rfl (fun K hK => ?_) AllReadyH.nil
        refine step_appendG intTy (by decide) encNat_len encNat_one (by rfl) (.tmp 51) (.tmp 53) (by rfl) Aw cw Lt (by rfl) GB (some ⟨W2.heap.size, 0, none⟩) 1 [x] (by rfl) Rn (by simp only [maxLen, List.length_singleton]; omega) (by simp only [List.length_singleton]; omega) ?_
        intro A9 c9 w9 g9 k9 q9
        have B9 : Blk w9 Wk 61 #[.slice Aw Lt.length cw] := k9.blk ((E4.out.1.alloc _).drew) fun i hs => by have := E5.out _ _ (slFp_zero hs); omega
        have wk9 := B9.cell 0
        have wf9 := B9.frozen 0
        have Bw9 : Blk w9 (Wk + 1) 23 #[.pointer (some ⟨Wk, 0, none⟩)] := k9.blk ((HP.out.bw.alloc _).drew) fun i hs => by have := E5.out _ _ (slFp_zero hs); omega
        have bw9 := Bw9.cell 0
        have FI := Lib.hid (HP.out.late (by omega) (by have := S4.out; omega) HE.out HLt.out E2.out E3.out E4.out E5.out E6.out E1.out (V := (W2.alloc (.cells #[.int .i64 (x : Int)] 3)).drew) ((Chg.alloc _ W2 _).drew) g9 k9 q9)
        refine hK.out _ _ (by exact bw9) (fun hHeld => ?_)
        clear hK K
        try simp only [Act.put, List.setIfInBounds_toArray, List.set_cons_zero, List.set_cons_succ]
        refine take_on (i := 8) (some 55) (v := ?v6) rfl rfl (by kernel_rfl) (by kernel_rfl) (by kernel_rfl) (fun _ _ _ h => h) (by rfl) ?hy6 (by assumption) ?rest6
        case hy6 => (intro wS hSw; (try dsimp only at hSw); go_simp; try with_reducible rfl)
        try simp only [Act.put, List.setIfInBounds_toArray, List.set_cons_zero, List.set_cons_succ]
        refine take_on (i := 9) (some 56) (v := ?v7) rfl rfl (by kernel_rfl) (by kernel_rfl) (by kernel_rfl) (fun _ _ _ h => h) (by rfl) ?hy7 (by assumption) ?rest7
        case hy7 => (intro wS hSw; (try dsimp only at hSw); go_simp; try with_reducible rfl)
        try simp only [Act.put, List.setIfInBounds_toArray, List.set_cons_zero, List.set_cons_succ]
        refine wpAnyH_ready (rs := [10]) (by kernel_rfl) (by simp) ?_
        refine AllReadyH.cons rfl (fun K hK => ?_) AllReadyH.nil
        go_simp
        refine hK.out _ _ (by exact (Bw9.far (p := ⟨Wk, 0, none⟩) (by simp) _).cell 0) (fun hHeld => ?_)
        clear hK K
        try simp only [Act.put, List.setIfInBounds_toArray, List.set_cons_zero, List.set_cons_succ]
        refine wpAnyH_done (by kernel_rfl) ?_ _
        obtain ⟨f1, f2, f3⟩ := FI.out
        rw [List.length_append, List.length_singleton] at f1 f2 f3
        refine ⟨by rw [S4.out]; exact f2, by rw [S4.out]; exact f3, ?_⟩
        show NewP w w.heap.size n s ws us M gw ga w.heap.size Wk (setsL ws (x + 1)) _
        rw [HSX.out]
        exact f1
      · go_simp
        refine hK.out _ _ (by exact bwV) (fun hHeld => ?_)
        clear hK K
        try simp only [Act.put, List.setIfInBounds_toArray, List.set_cons_zero, List.set_cons_succ]
        refine wpAnyH_ready (rs := [4]) (by kernel_rfl) (by simp) ?_
        refine AllReadyH.cons rfl (fun K hK => ?_) AllReadyH.nil
        go_simp
        refine hK.out _ _ (by exact bwV) (fun hHeld => ?_)
        clear hK K
        try simp only [Act.put, List.setIfInBounds_toArray, List.set_cons_zero, List.set_cons_succ]
        refine wpAnyH_ready (rs := [7]) (by kernel_rfl) (by simp) ?_
        refine AllReadyH.cons rfl (fun K hK => ?_) AllReadyH.nil
        refine step_appendG intTy (by decide) encNat_len encNat_one (by rfl) (.tmp 51) (.tmp 53) (by rfl) Aw cw Lt (by rfl) GB (some ⟨W2.heap.size, 0, none⟩) 1 [x] (by rfl) Rn (by simp only [maxLen, List.length_singleton]; omega) (by simp only [List.length_singleton]; omega) ?_
        intro A9 c9 w9 g9 k9 q9
        have B9 : Blk w9 Wk 61 #[.slice Aw Lt.length cw] := k9.blk ((E4.out.1.alloc _).drew) fun i hs => by have := E5.out _ _ (slFp_zero hs); omega
        have wk9 := B9.cell 0
        have wf9 := B9.frozen 0
        have Bw9 : Blk w9 (Wk + 1) 23 #[.pointer (some ⟨Wk, 0, none⟩)] := k9.blk ((HP.out.bw.alloc _).drew) fun i hs => by have := E5.out _ _ (slFp_zero hs); omega
        have bw9 := Bw9.cell 0
        have FI := Lib.hid (HP.out.late (by omega) (by have := S4.out; omega) HE.out HLt.out E2.out E3.out E4.out E5.out E6.out E1.out (V := (W2.alloc (.cells #[.int .i64 (x : Int)] 3)).drew) ((Chg.alloc _ W2 _).drew) g9 k9 q9)
        refine hK.out _ _ (by exact bw9) (fun hHeld => ?_)
        clear hK K
        try simp only [Act.put, List.setIfInBounds_toArray, List.set_cons_zero, List.set_cons_succ]
        refine take_on (i := 8) (some 55) (v := ?v8) rfl rfl (by kernel_rfl) (by kernel_rfl) (by kernel_rfl) (fun _ _ _ h => h) (by rfl) ?hy8 (by assumption) ?rest8
        case hy8 => (intro wS hSw; (try dsimp only at hSw); go_simp; try with_reducible rfl)
        try simp only [Act.put, List.setIfInBounds_toArray, List.set_cons_zero, List.set_cons_succ]
        refine take_on (i := 9) (some 56) (v := ?v9) rfl rfl (by kernel_rfl) (by kernel_rfl) (by kernel_rfl) (fun _ _ _ h => h) (by rfl) ?hy9 (by assumption) ?rest9
        case hy9 => (intro wS hSw; (try dsimp only at hSw); go_simp; try with_reducible rfl)
        try simp only [Act.put, List.setIfInBounds_toArray, List.set_cons_zero, List.set_cons_succ]
        refine wpAnyH_ready (rs := [10]) (by kernel_rfl) (by simp) ?_
        refine AllReadyH.cons rfl (fun K hK => ?_) AllReadyH.nil
        go_simp
        refine hK.out _ _ (by exact (Bw9.far (p := ⟨Wk, 0, none⟩) (by simp) _).cell 0) (fun hHeld => ?_)
        clear hK K
        try simp only [Act.put, List.setIfInBounds_toArray, List.set_cons_zero, List.set_cons_succ]
        refine wpAnyH_done (by kernel_rfl) ?_ _
        obtain ⟨f1, f2, f3⟩ := FI.out
        rw [List.length_append, List.length_singleton] at f1 f2 f3
        refine ⟨by rw [S4.out]; exact f2, by rw [S4.out]; exact f3, ?_⟩
        show NewP w w.heap.size n s ws us M gw ga w.heap.size Wk (setsL ws (x + 1)) _
        rw [HSX.out]
        exact f1
  case done =>
    intro W hE hD
    obtain ⟨Ae, ce, e1, e2, e3, Aw, cw, e4, e5, e6⟩ := hE.be
    obtain ⟨E, hEe⟩ : ∃ E, E = (setsL ws n).filter fun b => decide (b < s) := ⟨_, rfl⟩
    obtain ⟨Lt, hLt⟩ : ∃ Lt, Lt = (setsL ws n).filter fun b => !decide (b < s) := ⟨_, rfl⟩
    rw [← hEe] at e1 e2
    rw [← hLt] at e4
    have be0 : W.cell? ⟨Wk + 1 + 1, 0, none⟩ = some (.slice Ae E.length ce) := e1.cell 0
    have bw0 : W.drew.cell? ⟨Wk + 1, 0, none⟩ = some (.pointer (some ⟨Wk, 0, none⟩)) := hE.bw.cell 0
    have wk0 : W.cell? ⟨Wk, 0, none⟩ = some (.slice Aw Lt.length cw) := e4.1.cell 0
    have hEl : E.length ≤ 65536 := by rw [hEe]; exact Nat.le_trans (List.length_filter_le _ _) (Nat.le_trans (setsL_len _ _) (by omega))
    have hLl : Lt.length ≤ 65536 := by rw [hLt]; exact Nat.le_trans (List.length_filter_le _ _) (Nat.le_trans (setsL_len _ _) (by omega))
    have GB := Lib.hid (e4.2.chg ((Chg.refl (fun _ _ => False) W).drewN 1) encNat_len fun _ _ _ h => h)
    have GE := Lib.hid ((e2.chg ((Chg.refl (fun _ _ => False) W).drewN 1) encNat_len fun _ _ _ h => h).rds)
    have E1 := Lib.hid e1
    have E4 := Lib.hid e4
    have E5 := Lib.hid e5
    have HE := Lib.hid hE
    have HD := Lib.hid hD
    have HWL := Lib.hid (show walkL ws n s = Lt ++ E by unfold walkL; rw [← hEe, ← hLt])
    clear e1 e2 e3 e4 e5 e6 hEe hLt hE hD
    gi_wp2
    refine wpIn_wide.2 ?_
    have be0' : W.drew.cell? ⟨Wk + 1 + 1, 0, none⟩ = some (.slice Ae E.length ce) := be0
    refine wp_region_noPanic ?_
    refine wp_region_held_drew (S := fun w' => w'.cell? ⟨Wk + 1, 0, none⟩ = some (.pointer (some ⟨Wk, 0, none⟩)) ∧ w'.cell? ⟨Wk + 1 + 1, 0, none⟩ = some (.slice Ae E.length ce)) (by kernel_rfl) ⟨bw0, be0'⟩ (fun hHeld => ?_)
    refine take_on (i := 0) (some 57) (v := ?v10) rfl rfl (by kernel_rfl) (by kernel_rfl) (by kernel_rfl) (fun _ _ _ h => h) (by rfl) ?hy10 (by assumption) ?rest10
    case hy10 => (intro wS hSw; (try dsimp only at hSw); obtain ⟨hSa, hSb⟩ := hSw; go_simp; try with_reducible rfl)
    try simp only [Act.put, List.setIfInBounds_toArray, List.set_cons_zero, List.set_cons_succ]
    refine take_on (i := 1) (some 58) (v := ?v11) rfl rfl (by kernel_rfl) (by kernel_rfl) (by kernel_rfl) (fun _ _ _ h => h) (by rfl) ?hy11 (by assumption) ?rest11
    case hy11 => (intro wS hSw; (try dsimp only at hSw); obtain ⟨hSa, hSb⟩ := hSw; go_simp; try with_reducible rfl)
    try simp only [Act.put, List.setIfInBounds_toArray, List.set_cons_zero, List.set_cons_succ]
    refine take_on (i := 2) (some 59) (v := ?v12) rfl rfl (by kernel_rfl) (by kernel_rfl) (by kernel_rfl) (fun _ _ _ h => h) (by rfl) ?hy12 (by assumption) ?rest12
    case hy12 => (intro wS hSw; (try dsimp only at hSw); obtain ⟨hSa, hSb⟩ := hSw; go_simp; try with_reducible rfl)
    try simp only [Act.put, List.setIfInBounds_toArray, List.set_cons_zero, List.set_cons_succ]
    refine take_on (i := 3) (some 60) (v := ?v13) rfl rfl (by kernel_rfl) (by kernel_rfl) (by kernel_rfl) (fun _ _ _ h => h) (by rfl) ?hy13 (by assumption) ?rest13
    case hy13 => (intro wS hSw; (try dsimp only at hSw); obtain ⟨hSa, hSb⟩ := hSw; go_simp; try with_reducible rfl)
    try simp only [Act.put, List.setIfInBounds_toArray, List.set_cons_zero, List.set_cons_succ]
    refine take_on (i := 5) (some 62) (v := ?v14) rfl rfl (by kernel_rfl) (by kernel_rfl) (by kernel_rfl) (fun _ _ _ h => h) (by rfl) ?hy14 (by assumption) ?rest14
    case hy14 => (intro wS hSw; (try dsimp only at hSw); obtain ⟨hSa, hSb⟩ := hSw; go_simp; try with_reducible rfl)
    try simp only [Act.put, List.setIfInBounds_toArray, List.set_cons_zero, List.set_cons_succ]
    refine wpAnyH_ready (rs := [4]) (by kernel_rfl) (by simp) ?_
    refine AllReadyH.cons rfl (fun K hK => ?_) AllReadyH.nil
    go_simp
    refine hK.out _ _ (by exact ⟨bw0, be0'⟩) (fun hHeld => ?_)
    clear hK K
    try simp only [Act.put, List.setIfInBounds_toArray, List.set_cons_zero, List.set_cons_succ]
    refine wpAnyH_ready (rs := [6]) (by kernel_rfl) (by simp) ?_
    refine AllReadyH.cons rfl (fun K hK => ?_) AllReadyH.nil
    refine step_appendG intTy (by decide) encNat_len encNat_one (by rfl) (.tmp 61) (.tmp 62) (by rfl) Aw cw Lt (by rfl) GB.out Ae ce E (by rfl) GE.out (by simp only [maxLen]; omega) (by omega) ?_
    intro A9 c9 w9 g9 k9 q9
    have Bw9 : Blk w9 (Wk + 1) 23 #[.pointer (some ⟨Wk, 0, none⟩)] := k9.blk (HE.out.bw.drewN 1) (fun i hs => by have := E5.out _ _ (slFp_zero hs); omega)
    have B9 : Blk w9 Wk 61 #[.slice Aw Lt.length cw] := k9.blk (E4.out.1.drewN 1) (fun i hs => by have := E5.out _ _ (slFp_zero hs); omega)
    have Be9 : Blk w9 (Wk + 1 + 1) 59 #[.slice Ae E.length ce] := k9.blk (E1.out.drewN 1) (fun i hs => by have := E5.out _ _ (slFp_zero hs); omega)
    have wk9 := B9.cell 0
    have wf9 := B9.frozen 0
    have bw9 := Bw9.cell 0
    have be9 := Be9.cell 0
    have HG9 := Lib.hid g9
    have HK9 := Lib.hid k9
    have HQ9 := Lib.hid q9
    have HB9 := Lib.hid B9
    refine hK.out _ _ (by exact ⟨bw9, be9⟩) (fun hHeld => ?_)
    clear hK K
    try simp only [Act.put, List.setIfInBounds_toArray, List.set_cons_zero, List.set_cons_succ]
    refine take_on (i := 7) (some 64) (v := ?v15) rfl rfl (by kernel_rfl) (by kernel_rfl) (by kernel_rfl) (fun _ _ _ h => h) (by rfl) ?hy15 (by assumption) ?rest15
    case hy15 => (intro wS hSw; (try dsimp only at hSw); obtain ⟨hSa, hSb⟩ := hSw; go_simp; try with_reducible rfl)
    try simp only [Act.put, List.setIfInBounds_toArray, List.set_cons_zero, List.set_cons_succ]
    refine take_on (i := 8) (some 65) (v := ?v16) rfl rfl (by kernel_rfl) (by kernel_rfl) (by kernel_rfl) (fun _ _ _ h => h) (by rfl) ?hy16 (by assumption) ?rest16
    case hy16 => (intro wS hSw; (try dsimp only at hSw); obtain ⟨hSa, hSb⟩ := hSw; go_simp; try with_reducible rfl)
    try simp only [Act.put, List.setIfInBounds_toArray, List.set_cons_zero, List.set_cons_succ]
    refine wpAnyH_ready (rs := [9]) (by kernel_rfl) (by simp) ?_
    refine AllReadyH.cons rfl (fun K hK => ?_) AllReadyH.nil
    go_simp
    refine hK.out _ _ (by exact ⟨(Bw9.far (p := ⟨Wk, 0, none⟩) (by simp) _).cell 0, (Be9.far (p := ⟨Wk, 0, none⟩) (show Wk + 1 + 1 ≠ Wk by omega) _).cell 0⟩) (fun hHeld => ?_)
    clear hK K
    try simp only [Act.put, List.setIfInBounds_toArray, List.set_cons_zero, List.set_cons_succ]
    refine wpAnyH_done (by kernel_rfl) ?_ _
    refine NoPanic.normal ?_
    clear B9 Be9
    gi_wp2
    have hgrow : Chg (fun k i => slFp 1 Aw 0 cw k i ∨ k = Wk) W (w9.setCell ⟨Wk, 0, none⟩ (.slice A9 (Lt.length + E.length) c9)) := (((Chg.refl (fun k i => slFp 1 Aw 0 cw k i ∨ k = Wk) W).drewN 1).trans (HK9.out.mono (F' := fun k i => slFp 1 Aw 0 cw k i ∨ k = Wk) fun k i _ h => .inl (slFp_zero h)) fun _ _ _ h => h).trans (Chg.setCell (fun k i => slFp 1 Aw 0 cw k i ∨ k = Wk) w9 (g := Wk) (i := 0) (.inr rfl) _) fun _ _ _ h => h
    have hlt := HE.out.lt
    have hD0 := HD.out
    rw [S4.out] at hD0
    have hD3 := (hgrow.far (Wk + 4) (Array.getElem?_eq_some_iff.1 hD0).1 (fun i h => by
      rcases h with h | h
      · have := E5.out _ _ h; omega
      · omega)).trans hD0
    have hF9 : fromB (Wk + 5) A9 c9 := fun k i hs => by
      rcases HQ9.out with ⟨e1, e2⟩ | ⟨g', e1, hg⟩
      · rw [e1, e2] at hs
        have := E5.out k i hs
        omega
      · obtain ⟨o, e, _⟩ := hs
        rw [e1] at e
        cases e
        have h1 := (Array.getElem?_eq_some_iff.1 hD0).1
        have h2 : W.heap.size ≤ k := hg
        omega
    have cD : Chg (fun k _ => k = Wk + 4) (w9.setCell ⟨Wk, 0, none⟩ (.slice A9 (Lt.length + E.length) c9)) ((w9.setCell ⟨Wk, 0, none⟩ (.slice A9 (Lt.length + E.length) c9)).putObj (Wk + 4) (.deferred none)) := Chg.putObj _ _ hD3 rfl rfl
    have hWk9 : WkIn (w9.setCell ⟨Wk, 0, none⟩ (.slice A9 (Lt.length + E.length) c9)) Wk (Lt ++ E) A9 c9 := ⟨by rw [List.length_append]; exact HB9.out.set_ 0 _, HG9.out.chg (Chg.setCell (fun k _ => k = Wk) w9 (g := Wk) (i := 0) rfl _) encNat_len fun k i hs e => by have := hF9 k i (slFp_len HG9.out hs); omega⟩
    refine ⟨by simp, .inl ⟨_, _, rfl, run_takeDeferred hD3, ?_⟩⟩
    refine ⟨_, results_tmp2 rfl _ _ _, Wk, A9, c9, rfl, ?_, ?_, by omega, fun k i hs => by have := hF9 k i hs; omega⟩
    · rw [HWL.out]
      exact ⟨cD.blk hWk9.1 fun i e => by omega, hWk9.2.chg cD encNat_len fun k i hs e => by have := hF9 k i (slFp_len hWk9.2 hs); omega⟩
    · exact (HE.out.bel.trans (hgrow.below (by omega) fun k i hk h => by
        rcases h with h | h
        · have := E5.out _ _ h; omega
        · omega)).trans (cD.below (by have := hgrow.size; omega) fun k i hk e => by omega)
end
end Go.Proofs.YtdhccjmokmdboaaDoor
