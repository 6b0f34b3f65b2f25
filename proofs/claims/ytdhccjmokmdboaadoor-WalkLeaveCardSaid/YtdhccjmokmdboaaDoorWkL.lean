/- WalkLeave: two walkers side by side (plain frame), and its answer's cell. -/
import Derived.Test.YtdhccjmokmdboaaDoorWkH
import Derived.Test.YtdhccjmokmdboaaDoorWkK
namespace Go.Proofs.YtdhccjmokmdboaaDoor
open Go.RowKit
set_option linter.unusedVariables false
set_option linter.unusedSimpArgs false
/-- two walkers, the law's own cells; slices ahead of seen's cell -/
structure LvP (w0 : World) (B0 B1 Vx Sx K K2 D : Nat) (k : Int) (seen : Nat) (bw bv : List Nat) (W : World) : Prop where
  wk : ∃ A c, WkIn W K bw A c ∧ ∀ k i, slFp 1 A 0 c k i → k < Sx
  wv : ∃ A c, WkIn W K2 bv A c ∧ ∀ k i, slFp 1 A 0 c k i → k < Sx
  kb : Blk W B0 3 #[.int .i64 k]
  rb : Blk W B1 4 #[.bool false]
  vx : Blk W Vx 23 #[.pointer (some ⟨K2, 0, none⟩)]
  sx : Blk W Sx 3 #[.int .i64 (seen : Int)]
  bel : Below w0.heap.size w0 W
  lt : B0 < D ∧ B1 < D ∧ Vx < D ∧ Sx < D ∧ K < D ∧ K2 < D ∧ w0.heap.size ≤ W.heap.size ∧ D ≤ W.heap.size
  ge : w0.heap.size ≤ B0 ∧ w0.heap.size ≤ B1 ∧ w0.heap.size ≤ Vx ∧ w0.heap.size ≤ Sx ∧ w0.heap.size ≤ K ∧ w0.heap.size ≤ K2
  ne : K ≠ K2 ∧ B0 ≠ Sx
section
variable {w0 W W' : World} {B0 B1 Vx Sx K K2 D seen : Nat} {k : Int} {bw bv : List Nat} {F : Nat → Nat → Prop}
theorem LvP.chg (h : LvP w0 B0 B1 Vx Sx K K2 D k seen bw bv W) (hc : Chg F W W') (hF : ∀ k i, F k i → D ≤ k) : LvP w0 B0 B1 Vx Sx K K2 D k seen bw bv W' := by
  obtain ⟨A, c, h1, h2⟩ := h.wk
  obtain ⟨A', c', h3, h4⟩ := h.wv
  have hlt := h.lt
  have hge := h.ge
  have nf : ∀ k, k < D → ∀ i, ¬ F k i := fun k hk i hf => by have := hF k i hf; omega
  have hs := hc.size
  exact ⟨⟨A, c, h1.chg hc fun k i hs => by rcases hs with rfl | hs; exact nf _ (by omega) i; exact nf _ (by have := h2 k i hs; omega) i, h2⟩, ⟨A', c', h3.chg hc fun k i hs => by rcases hs with rfl | hs; exact nf _ (by omega) i; exact nf _ (by have := h4 k i hs; omega) i, h4⟩,
    hc.blk h.kb (nf _ (by omega)), hc.blk h.rb (nf _ (by omega)), hc.blk h.vx (nf _ (by omega)), hc.blk h.sx (nf _ (by omega)),
    h.bel.trans (hc.below (by omega) fun k i hk hf => by have := hF k i hf; omega), by omega, hge, h.ne⟩
theorem LvP.next1 (h : LvP w0 B0 B1 Vx Sx K K2 D k seen bw bv W) (hc : Chg (fun k _ => k = K) W W') {bw' : List Nat} {A5 : Option Addr} {c5 : Nat} (h5 : WkIn W' K bw' A5 c5) (h6 : ∀ k i, slFp 1 A5 0 c5 k i → k < Sx) : LvP w0 B0 B1 Vx Sx K K2 D k seen bw' bv W' := by
  obtain ⟨A, c, h1, h2⟩ := h.wk
  obtain ⟨A', c', h3, h4⟩ := h.wv
  have hlt := h.lt
  have hge := h.ge
  have hs := hc.size
  have n1 := h.ne.1
  refine ⟨⟨A5, c5, h5, h6⟩, ⟨A', c', h3.other h1.1 (fun e => n1 e.symm) hc, h4⟩, ?_, ?_, ?_, ?_, h.bel.trans (hc.below (by omega) fun k i hk e => by omega), by omega, hge, h.ne⟩
  · exact hc.blk h.kb fun _ e => Blk.ne_ h.kb h1.1 (by decide) e
  · exact hc.blk h.rb fun _ e => Blk.ne_ h.rb h1.1 (by decide) e
  · exact hc.blk h.vx fun _ e => Blk.ne_ h.vx h1.1 (by decide) e
  · exact hc.blk h.sx fun _ e => Blk.ne_ h.sx h1.1 (by decide) e
theorem LvP.next2 (h : LvP w0 B0 B1 Vx Sx K K2 D k seen bw bv W) (hc : Chg (fun k _ => k = K2) W W') {bv' : List Nat} {A5 : Option Addr} {c5 : Nat} (h5 : WkIn W' K2 bv' A5 c5) (h6 : ∀ k i, slFp 1 A5 0 c5 k i → k < Sx) : LvP w0 B0 B1 Vx Sx K K2 D k seen bw bv' W' := by
  obtain ⟨A, c, h1, h2⟩ := h.wk
  obtain ⟨A', c', h3, h4⟩ := h.wv
  have hlt := h.lt
  have hge := h.ge
  have hs := hc.size
  have n1 := h.ne.1
  refine ⟨⟨A, c, h1.other h3.1 n1 hc, h2⟩, ⟨A5, c5, h5, h6⟩, ?_, ?_, ?_, ?_, h.bel.trans (hc.below (by omega) fun k i hk e => by omega), by omega, hge, h.ne⟩
  · exact hc.blk h.kb fun _ e => Blk.ne_ h.kb h3.1 (by decide) e
  · exact hc.blk h.rb fun _ e => Blk.ne_ h.rb h3.1 (by decide) e
  · exact hc.blk h.vx fun _ e => Blk.ne_ h.vx h3.1 (by decide) e
  · exact hc.blk h.sx fun _ e => Blk.ne_ h.sx h3.1 (by decide) e
theorem LvP.see (h : LvP w0 B0 B1 Vx Sx K K2 D k seen bw bv W) : LvP w0 B0 B1 Vx Sx K K2 D k (seen + 1) bw bv (W.setCell ⟨Sx, 0, none⟩ (.int .i64 ((seen + 1 : Nat) : Int))) := by
  obtain ⟨A, c, h1, h2⟩ := h.wk
  obtain ⟨A', c', h3, h4⟩ := h.wv
  have hlt := h.lt
  have hge := h.ge
  have hc : Chg (fun k _ => k = Sx) W (W.setCell ⟨Sx, 0, none⟩ (.int .i64 ((seen + 1 : Nat) : Int))) := Chg.setCell (fun k _ => k = Sx) W (g := Sx) (i := 0) rfl _
  have hs := hc.size
  refine ⟨⟨A, c, h1.chg hc fun k i hh e => ?_, h2⟩, ⟨A', c', h3.chg hc fun k i hh e => ?_, h4⟩, ?_, ?_, ?_, h.sx.set_ 0 _, h.bel.trans (hc.below (by omega) fun k i hk e => by omega), by omega, hge, h.ne⟩
  · rcases hh with hh | hh
    · exact Blk.ne_ h1.1 h.sx (by decide) (hh.symm.trans e)
    · have := h2 k i hh; omega
  · rcases hh with hh | hh
    · exact Blk.ne_ h3.1 h.sx (by decide) (hh.symm.trans e)
    · have := h4 k i hh; omega
  · exact hc.blk h.kb fun _ e => h.ne.2 e
  · exact hc.blk h.rb fun _ e => Blk.ne_ h.rb h.sx (by decide) e
  · exact hc.blk h.vx fun _ e => Blk.ne_ h.vx h.sx (by decide) e
end
theorem Chg.heap_keep {F : Nat → Nat → Prop} {W W' : World} {k : Nat} {o : Obj} (h : Chg F W W') (hn : ∀ i, ¬ F k i) (hd : W.heap[k]? = some o) : W'.heap[k]? = some o := (h.far k (Array.getElem?_eq_some_iff.1 hd).1 hn).trans hd
theorem results_cell1 {fn : Func} {p : Tmp} {ty : TypeId} (h : fn.results = #[.cell p ty]) (tmps : Array Value) (P : Program) (w : World) (a : Addr) (v : Value) (hp : tmps.getD p undef = .pointer (some a)) (hl : (loadVar ty a).run P w = .ok v w) : (results fn tmps).run P w = .ok v w := by
  have hp' : tmps[p]?.getD undef = .pointer (some a) := by simpa using hp
  simp [results, h, hp', asAddr, hl]
/-- where the law stands ahead of its loops -/
theorem leave_start {w w2 w4 w6 : World} {K K2 : Nat} {bits : List Nat} {A2 A4 : Option Addr} {c2 c4 : Nat} (k : Int) (HK : WkIn w2 K bits A2 c2) (HK2 : WkIn w4 K2 bits A4 c4)
    (B2 : Below ((w.alloc (.cells #[.int .i64 k] 3)).alloc (.cells #[.bool false] 4)).heap.size ((w.alloc (.cells #[.int .i64 k] 3)).alloc (.cells #[.bool false] 4)) w2) (B4 : Below w2.heap.size w2 w4)
    (B6 : Below ((w4.alloc (.cells #[.pointer (some ⟨K2, 0, none⟩)] 23)).alloc (.cells #[.int .u64 1] 28)).heap.size ((w4.alloc (.cells #[.pointer (some ⟨K2, 0, none⟩)] 23)).alloc (.cells #[.int .u64 1] 28)) w6)
    (hK : ((w.alloc (.cells #[.int .i64 k] 3)).alloc (.cells #[.bool false] 4)).heap.size ≤ K) (hK2 : w2.heap.size ≤ K2) :
    LvP w w.heap.size (w.heap.size + 1) w4.heap.size w6.heap.size K K2 (w6.heap.size + 1) k 0 bits bits (w6.alloc (.cells #[.int .i64 0] 3)) := by
  simp only [World.size_alloc] at B2 B6 hK
  have b0 := (Blk.new w 3 #[.int .i64 k]).alloc (.cells #[.bool false] 4)
  have b1 := Blk.new (w.alloc (.cells #[.int .i64 k] 3)) 4 #[.bool false]
  have b4 := (Blk.new w4 23 #[.pointer (some ⟨K2, 0, none⟩)]).alloc (.cells #[.int .u64 1] 28)
  have b6 := Blk.new w6 3 #[.int .i64 0]
  rw [World.size_alloc] at b1
  have B45 : Below w4.heap.size w4 ((w4.alloc (.cells #[.pointer (some ⟨K2, 0, none⟩)] 23)).alloc (.cells #[.int .u64 1] 28)) := ((Below.refl _ w4).alloc (Nat.le_refl _) _).alloc (by simp) _
  have B67 : Below w6.heap.size w6 (w6.alloc (.cells #[.int .i64 0] 3)) := (Below.refl _ w6).alloc (Nat.le_refl _) _
  have z2 := B2.size
  have z4 := B4.size
  have z6 := B6.size
  have k1 := HK.1.lt
  have k2 := HK2.1.lt
  simp only [World.size_alloc] at z2 z6
  have B47 : Below w4.heap.size w4 (w6.alloc (.cells #[.int .i64 0] 3)) := (B45.trans (B6.mono (by omega))).trans (B67.mono (by omega))
  have B27 : Below w2.heap.size w2 (w6.alloc (.cells #[.int .i64 0] 3)) := B4.trans (B47.mono z4)
  have B07 := B2.trans (B27.mono z2)
  have B01 : Below w.heap.size w ((w.alloc (.cells #[.int .i64 k] 3)).alloc (.cells #[.bool false] 4)) := ((Below.refl _ w).alloc (Nat.le_refl _) _).alloc (by simp) _
  refine ⟨⟨A2, c2, HK.below B27, fun k i hs => by have := slFp_lt HK.2 hs; omega⟩, ⟨A4, c4, HK2.below B47, fun k i hs => by have := slFp_lt HK2.2 hs; omega⟩, b0.below B07 (by omega), b1.below B07 (by omega), ?_, b6, B01.trans (B07.mono (by omega)), ?_, ?_, ?_, ?_⟩
  · exact (b4.below B6 (by omega)).alloc _
  · rw [World.size_alloc]; omega
  · omega
  · omega
  · omega
theorem load_bool {W : World} {g : Nat} {b : Bool} (h : W.cell? ⟨g, 0, none⟩ = some (.bool b)) : (loadVar 4 ⟨g, 0, none⟩).run Tryd.prog W = .ok (.bool b) W := by
  have hu := Tryd.underlying4
  simp [loadVar, go_sem, h, hu]
theorem LvP.fin {w0 W : World} {B0 B1 Vx Sx K K2 D seen : Nat} {k : Int} {bw bv : List Nat} (h : LvP w0 B0 B1 Vx Sx K K2 D k seen bw bv W) : (W.setCell ⟨B1, 0, none⟩ (.bool true)).cell? ⟨B1, 0, none⟩ = some (.bool true) ∧ Below w0.heap.size w0 (W.setCell ⟨B1, 0, none⟩ (.bool true)) := by
  have hlt := h.lt
  have hge := h.ge
  exact ⟨(h.rb.set_ 0 (.bool true)).cell 0, h.bel.trans ((Chg.setCell (fun k _ => k = B1) W (g := B1) (i := 0) rfl _).below (by omega) fun k i hk e => by omega)⟩
theorem x13_new : newE 1 0 [1] = 0 := by decide +kernel
theorem x13_walk : (walkL [1] 1 0).length = 1 := by decide +kernel
end Go.Proofs.YtdhccjmokmdboaaDoor
