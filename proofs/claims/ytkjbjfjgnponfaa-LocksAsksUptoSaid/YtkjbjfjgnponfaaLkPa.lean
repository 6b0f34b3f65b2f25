/- Package replicalaw09: made, pass, play, by contract. -/
import Derived.Test.YtkjbjfjgnponfaaLkSt
namespace Go.Proofs.Ytkjbjfjgnponfaa
open Go.RowKit
set_option linter.unusedSimpArgs false
set_option linter.unusedVariables false
abbrev nilP : Value := .pointer none
def okM (a b : Int) : Prop := 1 ≤ a ∧ a ≤ 4096 ∧ 0 ≤ b ∧ b ≤ 512
theorem blk_set_new {w : World} {X : Nat} {cs : Array Value} {t : TypeId} (h : Blk w X t cs) (i : Nat) (v : Value) : Blk (w.setCell ⟨X, i, none⟩ v) X t (cs.setIfInBounds i v) := h.set_ i v
/-- both tables, made -/
def MadeOk (w : World) (B n : Nat) (most : Int) (e : Ending) (w' : World) : Prop :=
  ∃ X T E R, e = .returned (.tuple #[.pointer (some ⟨X, 0, none⟩), .bool true]) ∧ w.heap.size ≤ X ∧ Blk w' X 60 #[.pointer (some ⟨T, 0, none⟩), .pointer (some ⟨R, 0, none⟩), .pointer (some ⟨B, 0, none⟩)] ∧ TabS w.heap.size w' T E n 0 most 0 (fun _ => nilS) (fun _ => []) ∧ RS w.heap.size w' R n 0 most none 0 [] 0 (fun _ => []) ∧ Below w.heap.size w w'
def MadeNo (w : World) (B : Nat) (e : Ending) (w' : World) : Prop :=
  ∃ X, e = .returned (.tuple #[.pointer (some ⟨X, 0, none⟩), .bool true]) ∧ w.heap.size ≤ X ∧ Blk w' X 60 #[nilP, nilP, .pointer (some ⟨B, 0, none⟩)] ∧ Below w.heap.size w w'
set_option maxRecDepth 20000 in
set_option maxHeartbeats 8000000 in
theorem made_ok (B n : Nat) (most : Int) (w : World) (h1 : 1 ≤ n) (h2 : n ≤ 4096) (h3 : 0 ≤ most) (h4 : most ≤ 512) :
    Calls Try.prog 26 #[.agg #[.int .i64 (n : Int), .int .i64 most], .pointer (some ⟨B, 0, none⟩)] w (MadeOk w B n most) := by
  obtain ⟨w1, hw1⟩ : ∃ w1, w1 = (w.alloc (.cells #[.int .i64 (n : Int), .int .i64 most] 23)).alloc (.cells #[nilP, nilP, .pointer (some ⟨B, 0, none⟩)] 60) := ⟨_, rfl⟩
  have B1 : Below w.heap.size w w1 := by rw [hw1]; exact ((Below.refl _ _).alloc (Nat.le_refl _) _).alloc (by simp) _
  have MB : Blk w1 w.heap.size 23 #[.int .i64 (n : Int), .int .i64 most] := by rw [hw1]; exact (Blk.new w _ _).alloc _
  have XB : Blk w1 (w.heap.size + 1) 60 #[nilP, nilP, .pointer (some ⟨B, 0, none⟩)] := by
    rw [hw1]
    have := Blk.new (w.alloc (.cells #[.int .i64 (n : Int), .int .i64 most] 23)) 60 #[nilP, nilP, .pointer (some ⟨B, 0, none⟩)]
    rw [World.size_alloc] at this
    exact this
  have m0 : w1.cell? ⟨w.heap.size, 0, none⟩ = some (.int .i64 (n : Int)) := MB.cell 0
  have m1 : w1.cell? ⟨w.heap.size, 1, none⟩ = some (.int .i64 most) := MB.cell 1
  obtain ⟨M, hM⟩ : ∃ M, M = w.heap.size := ⟨_, rfl⟩
  obtain ⟨X, hX⟩ : ∃ X, X = w.heap.size + 1 := ⟨_, rfl⟩
  have gn := Lib.hid (new_ok n most w1 h1 h2 h3 h4)
  rw [← hM] at MB m0 m1
  rw [← hX] at XB
  have hsz : w.heap.size ≤ w1.heap.size := B1.size
  have HB1 := Lib.hid B1
  have HMB := Lib.hid MB
  have HXB := Lib.hid XB
  have HX := Lib.hid hX
  have HM := Lib.hid hM
  clear B1 MB XB
  go_enter Try.func26, Try.ntmps26
  go_upto_region 3 with fail
  rw [← hw1, ← hX, ← hM]
  clear hw1 hX hM
  go_wp2_with fail
  refine gn.out.mono ?_
  rintro e w2 ⟨T, E, rfl, hT, hB2⟩
  have XB2 := Lib.hid (HXB.out.below hB2 HXB.out.lt)
  have MB2 := Lib.hid (HMB.out.below hB2 HMB.out.lt)
  have hTX : T ≠ X ∧ E ≠ X := by have := HXB.out.lt; have := hT.hT; have := hT.hE; omega
  have hXM : X ≠ M := by have := HX.out; have := HM.out; omega
  have cx : Chg (fun k _ => k = X) w2 (w2.setCell ⟨X, 0, none⟩ (.pointer (some ⟨T, 0, none⟩))) := Chg.setCell (fun k _ => k = X) _ (show X = X from rfl) _
  have XB3 := Lib.hid (show Blk (w2.setCell ⟨X, 0, none⟩ (.pointer (some ⟨T, 0, none⟩))) X 60 #[.pointer (some ⟨T, 0, none⟩), nilP, .pointer (some ⟨B, 0, none⟩)] from XB2.out.set_ 0 _)
  have MB3 := Lib.hid (MB2.out.far (p := ⟨X, 0, none⟩) (fun e => hXM e.symm) (.pointer (some ⟨T, 0, none⟩)))
  have T3 := Lib.hid (hT.other XB2.out (by decide) (by decide) (by decide) cx fun k _ h => h)
  have B3 := Lib.hid (show Below w.heap.size w (w2.setCell ⟨X, 0, none⟩ (.pointer (some ⟨T, 0, none⟩))) from (HB1.out.trans (hB2.mono hsz)).setCell (p := ⟨X, 0, none⟩) (by have := HX.out; show w.heap.size ≤ X; omega) _)
  have x0 : w2.cell? ⟨X, 0, none⟩ = some nilP := XB2.out.cell 0
  have xf := XB2.out.frozen 0
  obtain ⟨w3, hw3⟩ : ∃ w3, w3 = w2.setCell ⟨X, 0, none⟩ (.pointer (some ⟨T, 0, none⟩)) := ⟨_, rfl⟩
  clear gn hT hB2 cx m0 m1
  go_upto_region 4 with fail
  rw [← hw3] at XB3 MB3 T3 B3 ⊢
  clear hw3 x0 xf XB2 MB2
  have m0 : w3.cell? ⟨M, 0, none⟩ = some (.int .i64 (n : Int)) := MB3.out.cell 0
  have m1 : w3.cell? ⟨M, 1, none⟩ = some (.int .i64 most) := MB3.out.cell 1
  have gr := Lib.hid (rnew_ok n most w3 h1 h2 h3 h4)
  go_wp2_with fail
  refine gr.out.mono ?_
  rintro e w4 ⟨R, rfl, hR, hB4⟩
  have XB4 := Lib.hid (XB3.out.below hB4 XB3.out.lt)
  have hRX : R ≠ X := by have := XB3.out.lt; have := hR.s.hR; omega
  have cx : Chg (fun k _ => k = X) w4 (w4.setCell ⟨X, 1, none⟩ (.pointer (some ⟨R, 0, none⟩))) := Chg.setCell (fun k _ => k = X) _ (show X = X from rfl) _
  have XB5 := Lib.hid (show Blk (w4.setCell ⟨X, 1, none⟩ (.pointer (some ⟨R, 0, none⟩))) X 60 #[.pointer (some ⟨T, 0, none⟩), .pointer (some ⟨R, 0, none⟩), .pointer (some ⟨B, 0, none⟩)] from XB4.out.set_ 1 _)
  have T5 := Lib.hid ((T3.out.below hB4).other XB4.out (by decide) (by decide) (by decide) cx fun k _ h => h)
  have R5 := Lib.hid (show RS w.heap.size (w4.setCell ⟨X, 1, none⟩ (.pointer (some ⟨R, 0, none⟩))) R n 0 most none 0 [] 0 (fun _ => []) from ⟨(hR.s.lower (b' := w.heap.size) B3.out.size).keep cx fun k hk _ e => by
    obtain ⟨_, t2, cs2, hb2, ht2⟩ := hR.s.typ hk
    exact blk_type_ne hb2 XB4.out (by rcases ht2 with rfl | rfl <;> decide) e, hR.sim, hR.len, hR.tle⟩)
  have B5 := Lib.hid (show Below w.heap.size w (w4.setCell ⟨X, 1, none⟩ (.pointer (some ⟨R, 0, none⟩))) from (B3.out.trans (hB4.mono B3.out.size)).setCell (p := ⟨X, 1, none⟩) (by have := HX.out; show w.heap.size ≤ X; omega) _)
  have x1 : w4.cell? ⟨X, 1, none⟩ = some nilP := XB4.out.cell 1
  have xf := XB4.out.frozen 1
  obtain ⟨w5, hw5⟩ : ∃ w5, w5 = w4.setCell ⟨X, 1, none⟩ (.pointer (some ⟨R, 0, none⟩)) := ⟨_, rfl⟩
  clear gr hR hB4 cx m0 m1
  go_upto_region 5 with fail
  rw [← hw5] at XB5 T5 R5 B5 ⊢
  clear hw5 x1 xf XB4
  have x0 : w5.cell? ⟨X, 0, none⟩ = some (.pointer (some ⟨T, 0, none⟩)) := XB5.out.cell 0
  have x1 : w5.cell? ⟨X, 1, none⟩ = some (.pointer (some ⟨R, 0, none⟩)) := XB5.out.cell 1
  go_quiet (fail)
  go_wp2
  go_ret2
  refine ⟨X, T, E, R, rfl, by have := HX.out; omega, XB5.out, (T5.out.lower hsz).below (below_drewN (Below.refl _ _) _), ⟨R5.out.s.below (below_drewN (Below.refl _ _) _), R5.out.sim, R5.out.len, R5.out.tle⟩, below_drewN B5.out _⟩
set_option maxRecDepth 20000 in
set_option maxHeartbeats 8000000 in
theorem made_no (B : Nat) (a b : Int) (w : World) (h : ¬ okM a b) :
    Calls Try.prog 26 #[.agg #[.int .i64 a, .int .i64 b], .pointer (some ⟨B, 0, none⟩)] w (MadeNo w B) := by
  obtain ⟨w1, hw1⟩ : ∃ w1, w1 = (w.alloc (.cells #[.int .i64 a, .int .i64 b] 23)).alloc (.cells #[nilP, nilP, .pointer (some ⟨B, 0, none⟩)] 60) := ⟨_, rfl⟩
  have B1 : Below w.heap.size w w1 := by rw [hw1]; exact ((Below.refl _ _).alloc (Nat.le_refl _) _).alloc (by simp) _
  have MB : Blk w1 w.heap.size 23 #[.int .i64 a, .int .i64 b] := by rw [hw1]; exact (Blk.new w _ _).alloc _
  have XB : Blk w1 (w.heap.size + 1) 60 #[nilP, nilP, .pointer (some ⟨B, 0, none⟩)] := by
    rw [hw1]
    have := Blk.new (w.alloc (.cells #[.int .i64 a, .int .i64 b] 23)) 60 #[nilP, nilP, .pointer (some ⟨B, 0, none⟩)]
    rw [World.size_alloc] at this
    exact this
  have m0 : w1.cell? ⟨w.heap.size, 0, none⟩ = some (.int .i64 a) := MB.cell 0
  have m1 : w1.cell? ⟨w.heap.size, 1, none⟩ = some (.int .i64 b) := MB.cell 1
  obtain ⟨M, hM⟩ : ∃ M, M = w.heap.size := ⟨_, rfl⟩
  obtain ⟨X, hX⟩ : ∃ X, X = w.heap.size + 1 := ⟨_, rfl⟩
  have gn := Lib.hid (new_no a b w1 h)
  rw [← hM] at MB m0 m1
  rw [← hX] at XB
  have HB1 := Lib.hid B1
  have HMB := Lib.hid MB
  have HXB := Lib.hid XB
  have HX := Lib.hid hX
  have HM := Lib.hid hM
  have HH := Lib.hid h
  clear B1 MB XB h
  go_enter Try.func26, Try.ntmps26
  go_upto_region 3 with fail
  rw [← hw1, ← hX, ← hM]
  clear hw1 hX hM
  go_wp2_with fail
  refine gn.out.mono ?_
  rintro e w' ⟨rfl, rfl⟩
  have hXM : X ≠ M := by have := HX.out; have := HM.out; omega
  have XB3 := Lib.hid (show Blk (w1.setCell ⟨X, 0, none⟩ nilP) X 60 #[nilP, nilP, .pointer (some ⟨B, 0, none⟩)] from HXB.out.set_ 0 _)
  have MB3 := Lib.hid (HMB.out.far (p := ⟨X, 0, none⟩) (fun e => hXM e.symm) nilP)
  have B3 := Lib.hid (show Below w.heap.size w (w1.setCell ⟨X, 0, none⟩ nilP) from HB1.out.setCell (p := ⟨X, 0, none⟩) (by have := HX.out; show w.heap.size ≤ X; omega) _)
  have x0 : w1.cell? ⟨X, 0, none⟩ = some nilP := HXB.out.cell 0
  have xf := HXB.out.frozen 0
  obtain ⟨w3, hw3⟩ : ∃ w3, w3 = w1.setCell ⟨X, 0, none⟩ nilP := ⟨_, rfl⟩
  clear gn m0 m1
  go_upto_region 4 with fail
  rw [← hw3] at XB3 MB3 B3 ⊢
  clear hw3 x0 xf
  have m0 : w3.cell? ⟨M, 0, none⟩ = some (.int .i64 a) := MB3.out.cell 0
  have m1 : w3.cell? ⟨M, 1, none⟩ = some (.int .i64 b) := MB3.out.cell 1
  have gr := Lib.hid (rnew_no a b w3 HH.out)
  go_wp2_with fail
  refine gr.out.mono ?_
  rintro e w' ⟨rfl, rfl⟩
  have XB5 := Lib.hid (show Blk (w3.setCell ⟨X, 1, none⟩ nilP) X 60 #[nilP, nilP, .pointer (some ⟨B, 0, none⟩)] from XB3.out.set_ 1 _)
  have B5 := Lib.hid (show Below w.heap.size w (w3.setCell ⟨X, 1, none⟩ nilP) from B3.out.setCell (p := ⟨X, 1, none⟩) (by have := HX.out; show w.heap.size ≤ X; omega) _)
  have x1 : w3.cell? ⟨X, 1, none⟩ = some nilP := XB3.out.cell 1
  have xf := XB3.out.frozen 1
  obtain ⟨w5, hw5⟩ : ∃ w5, w5 = w3.setCell ⟨X, 1, none⟩ nilP := ⟨_, rfl⟩
  clear gr m0 m1
  go_upto_region 5 with fail
  rw [← hw5] at XB5 B5 ⊢
  clear hw5 x1 xf
  have x0 : w5.cell? ⟨X, 0, none⟩ = some nilP := XB5.out.cell 0
  have x1 : w5.cell? ⟨X, 1, none⟩ = some nilP := XB5.out.cell 1
  go_quiet (fail)
  go_wp2
  go_ret2
  exact ⟨X, rfl, by have := HX.out; omega, XB5.out, below_drewN B5.out _⟩
/-- a pair: its tables, or none -/
def PV (base : Nat) (w : World) (X B i : Nat) (S : Nat → Prop) : Prop :=
  ∃ (T E R n : Nat) (most : Int) (V : Nat → Value) (wait : Int) (L : Nat → List Pl) (A : Option Addr) (c : Nat) (P : List RP) (turns : Int), n ≤ 4096 ∧ most ≤ 512 ∧ Blk w X 60 #[.pointer (some ⟨T, 0, none⟩), .pointer (some ⟨R, 0, none⟩), .pointer (some ⟨B, 0, none⟩)] ∧ TabS base w T E n 0 most wait V L ∧ RS base w R n i most A c P turns L ∧ Inv n i L wait ∧ Good n L ∧ wait ≤ most ∧ (∀ k, Fp T E n V k → S k) ∧ (∀ k, RFp R A k → S k)
def PN (w : World) (X B : Nat) : Prop := Blk w X 60 #[nilP, nilP, .pointer (some ⟨B, 0, none⟩)]
/-- a set of blocks that no other call writes -/
def SetI (w : World) (S : Nat → Prop) : Prop := ∀ k, S k → ∃ t cs, Blk w k t cs ∧ ¬ bkT t
structure PP (base : Nat) (w : World) (X B i : Nat) (v : Bool) (S : Nat → Prop) : Prop where
  si : SetI w S
  sx : S X
  ok : v = true → PV base w X B i S
  no : v = false → PN w X B
section
variable {base X B i : Nat} {w w' : World} {v : Bool} {S : Nat → Prop}
theorem PP.keep (h : PP base w X B i v S) (hC : Chg (DF base S) w w') : PP base w' X B i v S := by
  have hb : ∀ k t cs, S k → Blk w k t cs → Blk w' k t cs := fun k t cs hk hb => hC.blk hb fun _ hf => hf.2 hk
  refine ⟨fun k hk => ?_, h.sx, fun e => ?_, fun e => hb _ _ _ h.sx (h.no e)⟩
  · obtain ⟨t, cs, h1, h2⟩ := h.si k hk
    exact ⟨t, cs, hb k t cs hk h1, h2⟩
  · obtain ⟨T, E, R, n, most, V, wait, L, A, c, P, turns, h1, h2, h3, h4, h5, h6, h7, h8, h9, h10⟩ := h.ok e
    exact ⟨T, E, R, n, most, V, wait, L, A, c, P, turns, h1, h2, hb _ _ _ h.sx h3, h4.keep hC fun k hk _ hf => hf.2 (h9 k hk), ⟨h5.s.keep hC fun k hk _ hf => hf.2 (h10 k hk), h5.sim, h5.len, h5.tle⟩, h6, h7, h8, h9, h10⟩
theorem PP.below (h : PP base w X B i v S) (hB : Below w.heap.size w w') : PP base w' X B i v S := h.keep (Chg.of_below _ hB)
theorem PP.mono {j : Nat} (h : PP base w X B i v S) (hij : i ≤ j) : PP base w X B j v S := by
  refine ⟨h.si, h.sx, fun e => ?_, h.no⟩
  obtain ⟨T, E, R, n, most, V, wait, L, A, c, P, turns, h1, h2, h3, h4, h5, h6, h7, h8, h9, h10⟩ := h.ok e
  exact ⟨T, E, R, n, most, V, wait, L, A, c, P, turns, h1, h2, h3, h4, h5.mono hij, h6.mono hij, h7, h8, h9, h10⟩
theorem PP.cellT (h : PP base w X B i v S) : ∃ u, w.cell? ⟨X, 0, none⟩ = some (.pointer u) ∧ (u = none ↔ v = false) := by
  cases v with
  | false => exact ⟨none, (h.no rfl).cell 0, by simp⟩
  | true =>
    obtain ⟨T, E, R, n, most, V, wait, L, A, c, P, turns, h1, h2, h3, _⟩ := h.ok rfl
    exact ⟨some ⟨T, 0, none⟩, h3.cell 0, by simp⟩
end
/-- the state of both pairs and the Book -/
structure PQ (base : Nat) (w : World) (X Y B i : Nat) (v u late : Bool) (S D : Nat → Prop) : Prop where
  p : PP base w X B i v S
  q : PP base w Y B i u D
  dj : ∀ k, S k → ¬ D k
  bk : BkI base w B late i w.heap.size
  hb : base ≤ w.heap.size
section
variable {base X Y B i : Nat} {w w' : World} {v u late : Bool} {S D : Nat → Prop}
theorem PQ.swap (h : PQ base w X Y B i v u late S D) : PQ base w Y X B i u v late D S := ⟨h.q, h.p, fun k a b => h.dj k b a, h.bk, h.hb⟩
theorem PQ.below (h : PQ base w X Y B i v u late S D) (hB : Below w.heap.size w w') : PQ base w' X Y B i v u late S D := ⟨h.p.below hB, h.q.below hB, h.dj, (h.bk.below hB).mono (Nat.le_refl _) hB.size, Nat.le_trans h.hb hB.size⟩
theorem PQ.mono {j : Nat} (h : PQ base w X Y B i v u late S D) (hij : i ≤ j) : PQ base w X Y B j v u late S D := ⟨h.p.mono hij, h.q.mono hij, h.dj, h.bk.mono hij (Nat.le_refl _), h.hb⟩
end
/-- one block more that no call writes -/
theorem PQ.with_ {base X Y B i O t : Nat} {w : World} {v u late : Bool} {S D : Nat → Prop} {cs : Array Value} (h : PQ base w X Y B i v u late S D) (hO : Blk w O t cs) (ht : ¬ bkT t) (hS : ∀ k, S k → k ≠ O) : PQ base w X Y B i v u late S (fun k => D k ∨ k = O) := by
  refine ⟨h.p, ⟨fun k hk => ?_, .inl h.q.sx, fun e => ?_, h.q.no⟩, fun k h1 h2 => ?_, h.bk, h.hb⟩
  · rcases hk with hk | rfl
    · exact h.q.si k hk
    · exact ⟨t, cs, hO, ht⟩
  · obtain ⟨T, E, R, n, most, V, wait, L, A, c, P, turns, h1, h2, h3, h4, h5, h6, h7, h8, h9, h10⟩ := h.q.ok e
    exact ⟨T, E, R, n, most, V, wait, L, A, c, P, turns, h1, h2, h3, h4, h5, h6, h7, h8, fun k hk => .inl (h9 k hk), fun k hk => .inl (h10 k hk)⟩
  · rcases h2 with h2 | h2
    · exact h.dj k h1 h2
    · exact hS k h1 h2
/-- one call on the first pair -/
theorem step_pq {base X Y B i : Nat} {w : World} {u late : Bool} {S D : Nat → Prop} (h : PQ base w X Y B i true u late S D) (hi : i ≤ 300000000000) (kind ex mode owner : Int) (sec : Bool) :
    Calls Try.prog 27 #[.pointer (some ⟨X, 0, none⟩), .agg (opC kind sec ex mode owner)] w fun e w' => e = .returned (.bool true) ∧ (∃ S', PQ base w' X Y B (i + 1) true u late S' D) ∧ Below base w w' ∧ Chg (DF base D) w w' := by
  obtain ⟨T, E, R, n, most, V, wait, L, A, c, P, turns, h1, h2, h3, h4, h5, h6, h7, h8, h9, h10⟩ := h.p.ok rfl
  refine (step_any base X T E R B n i most late i D kind ex mode owner sec w ⟨V, wait, L, A, c, P, turns, ⟨h3, h4, h5, h.bk, h.q.si, fun k hk hd => h.dj k (h9 k hk) hd, fun k hk hd => h.dj k (h10 k hk) hd⟩, h6, h7, h8⟩ h1 h2 hi hi h.hb).mono fun e w' hp => ?_
  obtain ⟨he, ⟨V', wait', L', A', c', P', turns', hs, hI, hG, hM⟩, hC⟩ := hp
  have hbel : Below base w w' := hC.below h.hb fun k _ hk hf => by have := hf.1; omega
  refine ⟨he, ⟨fun k => k = X ∨ Fp T E n V' k ∨ RFp R A' k, ⟨fun k hk => ?_, .inl rfl, fun _ => ⟨T, E, R, n, most, V', wait', L', A', c', P', turns', h1, h2, hs.px, hs.tab, hs.ref, hI, hG, hM, fun k hk => .inr (.inl hk), fun k hk => .inr (.inr hk)⟩, fun e => by cases e⟩, (h.q.keep hC).mono (Nat.le_succ i), fun k hk hd => ?_, hs.bk, by have := hC.size; have := h.hb; omega⟩, hbel, hC⟩
  · rcases hk with rfl | hk | hk
    · exact ⟨_, _, hs.px, by rintro (h | h | h) <;> exact absurd h (by decide)⟩
    · obtain ⟨t, cs, hb, ht⟩ := fp_typ hs.tab hk
      exact ⟨t, cs, hb, by rcases ht with rfl | rfl | rfl <;> (rintro (h | h | h) <;> exact absurd h (by decide))⟩
    · obtain ⟨_, t, cs, hb, ht⟩ := hs.ref.s.typ hk
      exact ⟨t, cs, hb, by rcases ht with rfl | rfl <;> (rintro (h | h | h) <;> exact absurd h (by decide))⟩
  · rcases hk with rfl | hk | hk
    · exact h.dj _ h.p.sx hd
    · exact hs.dT k hk hd
    · exact hs.dR k hk hd
/-- a pair, as made makes it -/
theorem made_pp {B i : Nat} {a b : Int} {w : World} {base : Nat} (hb : base ≤ w.heap.size) : Calls Try.prog 26 #[.agg #[.int .i64 a, .int .i64 b], .pointer (some ⟨B, 0, none⟩)] w fun e w' => ∃ (X : Nat) (v : Bool) (S : Nat → Prop), e = .returned (.tuple #[.pointer (some ⟨X, 0, none⟩), .bool true]) ∧ PP base w' X B i v S ∧ (∀ k, S k → w.heap.size ≤ k) ∧ Below w.heap.size w w' ∧ (v = true → okM a b) := by
  by_cases h : okM a b
  · obtain ⟨n, rfl⟩ : ∃ n : Nat, a = (n : Int) := ⟨a.toNat, by have := h.1; omega⟩
    refine (made_ok B n b w (by have := h.1; omega) (by have := h.2.1; omega) h.2.2.1 h.2.2.2).mono fun e w' hp => ?_
    obtain ⟨X, T, E, R, he, hX, hx, hT, hR, hB⟩ := hp
    refine ⟨X, true, fun k => k = X ∨ Fp T E n (fun _ => nilS) k ∨ RFp R none k, he, ⟨fun k hk => ?_, .inl rfl, fun _ => ⟨T, E, R, n, b, _, _, _, _, _, _, _, by have := h.2.1; omega, h.2.2.2, hx, hT.lower hb, ⟨hR.s.lower hb, hR.sim, Nat.zero_le _, by have := hR.tle; omega⟩, (Inv.zero n).mono (Nat.zero_le _), Good.nil_ n, h.2.2.1, fun k hk => .inr (.inl hk), fun k hk => .inr (.inr hk)⟩, fun e => by cases e⟩, fun k hk => ?_, hB, fun _ => h⟩
    · rcases hk with rfl | hk | hk
      · exact ⟨_, _, hx, by rintro (h | h | h) <;> exact absurd h (by decide)⟩
      · obtain ⟨t, cs, hb, ht⟩ := fp_typ hT hk
        exact ⟨t, cs, hb, by rcases ht with rfl | rfl | rfl <;> (rintro (h | h | h) <;> exact absurd h (by decide))⟩
      · obtain ⟨_, t, cs, hb, ht⟩ := hR.s.typ hk
        exact ⟨t, cs, hb, by rcases ht with rfl | rfl <;> (rintro (h | h | h) <;> exact absurd h (by decide))⟩
    · rcases hk with rfl | hk | hk
      · exact hX
      · exact (hT.fpLt hk).1
      · exact (hR.s.lt hk).1
  · refine (made_no B a b w h).mono fun e w' hp => ?_
    obtain ⟨X, he, hX, hx, hB⟩ := hp
    exact ⟨X, false, fun k => k = X, he, ⟨fun k hk => by rw [hk]; exact ⟨_, _, hx, by rintro (h | h | h) <;> exact absurd h (by decide)⟩, rfl, (fun e => by cases e), fun _ => hx⟩, fun k hk => by rw [hk]; exact hX, hB, fun e => by cases e⟩
set_option maxRecDepth 20000 in
set_option maxHeartbeats 16000000 in
theorem pass_any (base B sl cap : Nat) (late : Bool) (a b a2 b2 lo hi : Int) (A : Option Addr) (ops : List O5) (w : World) (hsl : ops.length = sl) (hsm : sl ≤ 10000000) (hr : RdS encO5 5 w A ops) (hb : base ≤ w.heap.size) (hBk : BkI base w B late 0 w.heap.size) (hA : ops ≠ [] → ∀ ad, A = some ad → ad.block < base) :
    Calls Try.prog 49 #[.agg #[.int .i64 a, .int .i64 b], .agg #[.int .i64 a2, .int .i64 b2], .slice A sl cap, .int .i64 lo, .int .i64 hi, .pointer (some ⟨B, 0, none⟩)] w fun e w' => e = .returned (.bool true) ∧ Below base w w' := by
  have HR := Lib.hid hr
  have HSL := Lib.hid hsl
  obtain ⟨w1, hw1⟩ : ∃ w1, w1 = (w.alloc (.cells #[.int .i64 a, .int .i64 b] 23)).alloc (.cells #[.int .i64 a2, .int .i64 b2] 23) := ⟨_, rfl⟩
  have B1 : Below w.heap.size w w1 := by rw [hw1]; exact ((Below.refl _ _).alloc (Nat.le_refl _) _).alloc (by simp) _
  have M1 : Blk w1 w.heap.size 23 #[.int .i64 a, .int .i64 b] := by rw [hw1]; exact (Blk.new w _ _).alloc _
  have M2 : Blk w1 (w.heap.size + 1) 23 #[.int .i64 a2, .int .i64 b2] := by
    rw [hw1]
    have := Blk.new (w.alloc (.cells #[.int .i64 a, .int .i64 b] 23)) 23 #[.int .i64 a2, .int .i64 b2]
    rw [World.size_alloc] at this
    exact this
  obtain ⟨Ma, hMa⟩ : ∃ M, M = w.heap.size := ⟨_, rfl⟩
  obtain ⟨Mb, hMb⟩ : ∃ M, M = w.heap.size + 1 := ⟨_, rfl⟩
  rw [← hMa] at M1
  rw [← hMb] at M2
  have K1 := hBk.below B1
  have lc : w1.cell? ⟨B, 1, none⟩ = some (.bool late) := K1.late_cell
  have n0 : w1.cell? ⟨Ma, 0, none⟩ = some (.int .i64 a) := M1.cell 0
  have n1 : w1.cell? ⟨Ma, 1, none⟩ = some (.int .i64 b) := M1.cell 1
  have hb1 : base ≤ w1.heap.size := Nat.le_trans hb B1.size
  have g1 := Lib.hid (made_pp (B := B) (i := 0) (a := a) (b := b) hb1)
  have HB1 := Lib.hid (B1.mono hb)
  have HM2 := Lib.hid M2
  have HK1 := Lib.hid K1
  have HA := Lib.hid hA
  have hs1 : w.heap.size ≤ w1.heap.size := B1.size
  clear hr hsl B1 M1 M2 K1 hBk hA
  go_enter Try.func49, Try.ntmps49
  go_upto_region 1 with fail
  rw [← hw1, ← hMb, ← hMa]
  clear hw1 hMa hMb
  go_wp2_with fail
  refine g1.out.mono ?_
  rintro e w2 ⟨X, v, S, rfl, hP, hS, hB2, hv⟩
  have HP := Lib.hid hP
  have HS := Lib.hid (show ∀ k, S k → k < w2.heap.size from fun k hk => by obtain ⟨t, cs, hb, _⟩ := hP.si k hk; exact hb.lt)
  have B2 := Lib.hid (HB1.out.trans (hB2.mono hb1))
  have M2 := Lib.hid (HM2.out.below hB2 HM2.out.lt)
  have K2 := Lib.hid (HK1.out.below hB2)
  have n0 : w2.cell? ⟨Mb, 0, none⟩ = some (.int .i64 a2) := M2.out.cell 0
  have n1 : w2.cell? ⟨Mb, 1, none⟩ = some (.int .i64 b2) := M2.out.cell 1
  have hb2 : base ≤ w2.heap.size := Nat.le_trans hb1 hB2.size
  have hs2 : w.heap.size ≤ w2.heap.size := Nat.le_trans hs1 hB2.size
  have g2 := Lib.hid (made_pp (B := B) (i := 0) (a := a2) (b := b2) hb2)
  clear g1 hP hS hB2 hv HM2 HK1 HB1
  go_wp2_with fail
  refine g2.out.mono ?_
  rintro e w3 ⟨Y, u, D, rfl, hQ, hD, hB3, hu⟩
  have Q3 := Lib.hid (show PQ base w3 X Y B 0 v u late S D from ⟨HP.out.below hB3, hQ, fun k h1 h2 => by have := HS.out k h1; have := hD k h2; omega, (K2.out.below hB3).mono (Nat.le_refl _) (Nat.le_trans hs2 hB3.size), Nat.le_trans hb2 hB3.size⟩)
  have B3 := Lib.hid (B2.out.trans (hB3.mono hb2))
  clear g2 hQ hD hB3 hu HP HS B2 M2 K2 n0 n1 hs2 hb2
  go_wp2_with fail
  go_loopw [18, 15] (fun t18 t15 wr => ∃ (i : Nat) (S D : Nat → Prop), i ≤ sl ∧ t18 = .int .i64 (i : Int) ∧ t15 = .bool true ∧ Hid (PQ base wr X Y B (2 * i) v u late S D) ∧ Hid (Below base w wr)) (fun t18 _ _ => sl - (intOf t18).toNat)
  case atStart => exact ⟨0, S, D, Nat.zero_le _, rfl, rfl, Q3, B3⟩
  case round =>
    clear Q3 B3
    obtain ⟨i, S, D, hil, rfl, rfl, hQ, hBw⟩ := hrel
    by_cases hlt : i < sl
    · have hlt' : (i : Int) < (sl : Int) := by omega
      obtain ⟨s, hs⟩ : ∃ s, ops[i]? = some s := ⟨_, List.getElem?_eq_getElem (by rw [HSL.out]; exact hlt)⟩
      obtain ⟨g, o, hA, hg, hc⟩ := HR.out i s hs
      obtain ⟨kind, sec, oe, mode, ow⟩ := s
      have hgb : g < base := HA.out (fun e => by rw [e] at hs; simp at hs) _ hA
      subst hA
      have y0 : wr.cell? ⟨g, o + i * 5, none⟩ = some (.int .i64 kind) := (hBw.out.cell (p := ⟨g, o + i * 5, none⟩) hgb).trans (hc 0 _ rfl)
      have y1 : wr.cell? ⟨g, o + i * 5 + 1, none⟩ = some (.bool sec) := (hBw.out.cell (p := ⟨g, o + i * 5 + 1, none⟩) hgb).trans (hc 1 _ rfl)
      have y2 : wr.cell? ⟨g, o + i * 5 + 2, none⟩ = some (.int .i64 oe) := (hBw.out.cell (p := ⟨g, o + i * 5 + 2, none⟩) hgb).trans (hc 2 _ rfl)
      have y3 : wr.cell? ⟨g, o + i * 5 + 3, none⟩ = some (.int .i64 mode) := (hBw.out.cell (p := ⟨g, o + i * 5 + 3, none⟩) hgb).trans (hc 3 _ rfl)
      have y4 : wr.cell? ⟨g, o + i * 5 + 4, none⟩ = some (.int .i64 ow) := (hBw.out.cell (p := ⟨g, o + i * 5 + 4, none⟩) hgb).trans (hc 4 _ rfl)
      obtain ⟨wo, hwo⟩ : ∃ wo, wo = wr.alloc (.cells (opC kind sec oe mode ow) 33) := ⟨_, rfl⟩
      have Bo : Below wr.heap.size wr wo := by rw [hwo]; exact (Below.refl _ _).alloc (Nat.le_refl _) _
      have Ob : Blk wo wr.heap.size 33 (opC kind sec oe mode ow) := by rw [hwo]; exact Blk.new wr _ _
      obtain ⟨O, hO⟩ : ∃ O, O = wr.heap.size := ⟨_, rfl⟩
      rw [← hO] at Ob
      have QO := Lib.hid (hQ.out.below Bo)
      have HSO := Lib.hid (show ∀ k, S k → k ≠ O from fun k hk => by obtain ⟨t, cs, hb, _⟩ := hQ.out.p.si k hk; have := hb.lt; omega)
      have HDO := Lib.hid (show ∀ k, D k → k ≠ O from fun k hk => by obtain ⟨t, cs, hb, _⟩ := hQ.out.q.si k hk; have := hb.lt; omega)
      have BO := Lib.hid (hBw.out.trans (Bo.mono hQ.out.hb))
      have HOb := Lib.hid Ob
      have hOb : base ≤ O := by rw [hO]; exact hQ.out.hb
      have o0 : wo.cell? ⟨O, 0, none⟩ = some (.int .i64 kind) := Ob.cell 0
      have o1 : wo.cell? ⟨O, 1, none⟩ = some (.bool sec) := Ob.cell 1
      have o2 : wo.cell? ⟨O, 2, none⟩ = some (.int .i64 oe) := Ob.cell 2
      have o3 : wo.cell? ⟨O, 3, none⟩ = some (.int .i64 mode) := Ob.cell 3
      have o4 : wo.cell? ⟨O, 4, none⟩ = some (.int .i64 ow) := Ob.cell 4
      clear hs hc Bo Ob
      go_upto_region 10 with fail
      rw [← hwo, ← hO]
      clear hwo hO y0 y1 y2 y3 y4
      cases sec with
      | false =>
        cases v with
        | false =>
          have x0 : wo.cell? ⟨X, 0, none⟩ = some nilP := (QO.out.p.no rfl).cell 0
          go_wp2
          go_roundw
          case rel => exact ⟨i + 1, S, D, by omega, by go_num, rfl, Lib.hid ((QO.out).mono (by omega)), BO⟩
          case measure => simp [intOf]; omega
        | true =>
          obtain ⟨pt, x0, hpt⟩ := QO.out.p.cellT
          have hpn : pt ≠ none := fun e => by have := hpt.1 e; cases this
          obtain ⟨pa, rfl⟩ : ∃ pa, pt = some pa := by
            cases pt with
            | none => exact absurd rfl hpn
            | some pa => exact ⟨pa, rfl⟩
          have QW := Lib.hid (QO.out.with_ HOb.out (by rintro (h | h | h) <;> exact absurd h (by decide)) HSO.out)
          have gs := Lib.hid (step_pq QW.out (by omega) kind oe mode ow false)
          clear hpt hpn
          go_wp2_with fail
          refine gs.out.mono ?_
          rintro e w5 ⟨rfl, ⟨S5, hQ5⟩, hB5, hC5⟩
          have Q5 := Lib.hid hQ5
          have B5 := Lib.hid (BO.out.trans hB5)
          have ob5 := Lib.hid (hC5.blk HOb.out fun _ hf => hf.2 (.inr rfl))
          cases late with
          | false =>
            have gk := Lib.hid (keptI_any Q5.out.bk (by omega))
            clear gs hQ5 hB5 hC5
            go_wp2_with fail
            refine gk.out.mono ?_
            rintro e w6 ⟨rfl, hB6⟩
            have Q6 := Lib.hid (Q5.out.below hB6)
            have B6 := Lib.hid (B5.out.trans (hB6.mono Q5.out.hb))
            clear gk hB6
            go_wp2
            go_roundw
            case rel => exact ⟨i + 1, S5, (fun k => D k ∨ k = O), by omega, by go_num, rfl, Lib.hid ((Q6.out).mono (by omega)), B6⟩
            case measure => simp [intOf]; omega
          | true =>
            have p0 : w5.cell? ⟨O, 0, none⟩ = some (.int .i64 kind) := ob5.out.cell 0
            have p1 : w5.cell? ⟨O, 1, none⟩ = some (.bool false) := ob5.out.cell 1
            have p2 : w5.cell? ⟨O, 2, none⟩ = some (.int .i64 oe) := ob5.out.cell 2
            have p3 : w5.cell? ⟨O, 3, none⟩ = some (.int .i64 mode) := ob5.out.cell 3
            have p4 : w5.cell? ⟨O, 4, none⟩ = some (.int .i64 ow) := ob5.out.cell 4
            clear gs hQ5 hB5 hC5
            by_cases hk : kind = 5 ∨ kind = 6
            · have gs := Lib.hid (step_pq Q5.out (by omega) kind oe mode ow false)
              rcases hk with hk | hk
              · subst hk
                go_wp2_with fail
                refine gs.out.mono ?_
                rintro e w7 ⟨rfl, ⟨S7, hQ7⟩, hB7, _⟩
                have Q7 := Lib.hid hQ7
                have B7 := Lib.hid (B5.out.trans hB7)
                have gk := Lib.hid (keptI_any Q7.out.bk (by omega))
                clear gs hQ7 hB7
                go_wp2_with fail
                refine gk.out.mono ?_
                rintro e w6 ⟨rfl, hB6⟩
                have Q6 := Lib.hid (Q7.out.below hB6)
                have B6 := Lib.hid (B7.out.trans (hB6.mono Q7.out.hb))
                clear gk hB6
                go_wp2
                go_roundw
                case rel => exact ⟨i + 1, S7, (fun k => D k ∨ k = O), by omega, by go_num, rfl, Lib.hid ((Q6.out).mono (by omega)), B6⟩
                case measure => simp [intOf]; omega
              · subst hk
                go_wp2_with fail
                refine gs.out.mono ?_
                rintro e w7 ⟨rfl, ⟨S7, hQ7⟩, hB7, _⟩
                have Q7 := Lib.hid hQ7
                have B7 := Lib.hid (B5.out.trans hB7)
                have gk := Lib.hid (keptI_any Q7.out.bk (by omega))
                clear gs hQ7 hB7
                go_wp2_with fail
                refine gk.out.mono ?_
                rintro e w6 ⟨rfl, hB6⟩
                have Q6 := Lib.hid (Q7.out.below hB6)
                have B6 := Lib.hid (B7.out.trans (hB6.mono Q7.out.hb))
                clear gk hB6
                go_wp2
                go_roundw
                case rel => exact ⟨i + 1, S7, (fun k => D k ∨ k = O), by omega, by go_num, rfl, Lib.hid ((Q6.out).mono (by omega)), B6⟩
                case measure => simp [intOf]; omega
            · have h5 : (kind == 5) = false := by rw [beq_eq_false_iff_ne]; exact fun e => hk (.inl e)
              have h6 : (kind == 6) = false := by rw [beq_eq_false_iff_ne]; exact fun e => hk (.inr e)
              have gk := Lib.hid (keptI_any Q5.out.bk (by omega))
              clear hk
              go_wp2_with fail
              refine gk.out.mono ?_
              rintro e w6 ⟨rfl, hB6⟩
              have Q6 := Lib.hid (Q5.out.below hB6)
              have B6 := Lib.hid (B5.out.trans (hB6.mono Q5.out.hb))
              clear gk hB6
              go_wp2
              go_roundw
              case rel => exact ⟨i + 1, S5, (fun k => D k ∨ k = O), by omega, by go_num, rfl, Lib.hid ((Q6.out).mono (by omega)), B6⟩
              case measure => simp [intOf]; omega
      | true =>
        have QO := Lib.hid QO.out.swap
        cases u with
        | false =>
          have x0 : wo.cell? ⟨Y, 0, none⟩ = some nilP := (QO.out.p.no rfl).cell 0
          go_wp2
          go_roundw
          case rel => exact ⟨i + 1, S, D, by omega, by go_num, rfl, Lib.hid ((QO.out).swap.mono (by omega)), BO⟩
          case measure => simp [intOf]; omega
        | true =>
          obtain ⟨pt, x0, hpt⟩ := QO.out.p.cellT
          have hpn : pt ≠ none := fun e => by have := hpt.1 e; cases this
          obtain ⟨pa, rfl⟩ : ∃ pa, pt = some pa := by
            cases pt with
            | none => exact absurd rfl hpn
            | some pa => exact ⟨pa, rfl⟩
          have QW := Lib.hid (QO.out.with_ HOb.out (by rintro (h | h | h) <;> exact absurd h (by decide)) HDO.out)
          have gs := Lib.hid (step_pq QW.out (by omega) kind oe mode ow true)
          clear hpt hpn
          go_wp2_with fail
          refine gs.out.mono ?_
          rintro e w5 ⟨rfl, ⟨S5, hQ5⟩, hB5, hC5⟩
          have Q5 := Lib.hid hQ5
          have B5 := Lib.hid (BO.out.trans hB5)
          have ob5 := Lib.hid (hC5.blk HOb.out fun _ hf => hf.2 (.inr rfl))
          cases late with
          | false =>
            have gk := Lib.hid (keptI_any Q5.out.bk (by omega))
            clear gs hQ5 hB5 hC5
            go_wp2_with fail
            refine gk.out.mono ?_
            rintro e w6 ⟨rfl, hB6⟩
            have Q6 := Lib.hid (Q5.out.below hB6)
            have B6 := Lib.hid (B5.out.trans (hB6.mono Q5.out.hb))
            clear gk hB6
            go_wp2
            go_roundw
            case rel => exact ⟨i + 1, (fun k => S k ∨ k = O), S5, by omega, by go_num, rfl, Lib.hid ((Q6.out).swap.mono (by omega)), B6⟩
            case measure => simp [intOf]; omega
          | true =>
            have p0 : w5.cell? ⟨O, 0, none⟩ = some (.int .i64 kind) := ob5.out.cell 0
            have p1 : w5.cell? ⟨O, 1, none⟩ = some (.bool true) := ob5.out.cell 1
            have p2 : w5.cell? ⟨O, 2, none⟩ = some (.int .i64 oe) := ob5.out.cell 2
            have p3 : w5.cell? ⟨O, 3, none⟩ = some (.int .i64 mode) := ob5.out.cell 3
            have p4 : w5.cell? ⟨O, 4, none⟩ = some (.int .i64 ow) := ob5.out.cell 4
            clear gs hQ5 hB5 hC5
            by_cases hk : kind = 5 ∨ kind = 6
            · have gs := Lib.hid (step_pq Q5.out (by omega) kind oe mode ow true)
              rcases hk with hk | hk
              · subst hk
                go_wp2_with fail
                refine gs.out.mono ?_
                rintro e w7 ⟨rfl, ⟨S7, hQ7⟩, hB7, _⟩
                have Q7 := Lib.hid hQ7
                have B7 := Lib.hid (B5.out.trans hB7)
                have gk := Lib.hid (keptI_any Q7.out.bk (by omega))
                clear gs hQ7 hB7
                go_wp2_with fail
                refine gk.out.mono ?_
                rintro e w6 ⟨rfl, hB6⟩
                have Q6 := Lib.hid (Q7.out.below hB6)
                have B6 := Lib.hid (B7.out.trans (hB6.mono Q7.out.hb))
                clear gk hB6
                go_wp2
                go_roundw
                case rel => exact ⟨i + 1, (fun k => S k ∨ k = O), S7, by omega, by go_num, rfl, Lib.hid ((Q6.out).swap.mono (by omega)), B6⟩
                case measure => simp [intOf]; omega
              · subst hk
                go_wp2_with fail
                refine gs.out.mono ?_
                rintro e w7 ⟨rfl, ⟨S7, hQ7⟩, hB7, _⟩
                have Q7 := Lib.hid hQ7
                have B7 := Lib.hid (B5.out.trans hB7)
                have gk := Lib.hid (keptI_any Q7.out.bk (by omega))
                clear gs hQ7 hB7
                go_wp2_with fail
                refine gk.out.mono ?_
                rintro e w6 ⟨rfl, hB6⟩
                have Q6 := Lib.hid (Q7.out.below hB6)
                have B6 := Lib.hid (B7.out.trans (hB6.mono Q7.out.hb))
                clear gk hB6
                go_wp2
                go_roundw
                case rel => exact ⟨i + 1, (fun k => S k ∨ k = O), S7, by omega, by go_num, rfl, Lib.hid ((Q6.out).swap.mono (by omega)), B6⟩
                case measure => simp [intOf]; omega
            · have h5 : (kind == 5) = false := by rw [beq_eq_false_iff_ne]; exact fun e => hk (.inl e)
              have h6 : (kind == 6) = false := by rw [beq_eq_false_iff_ne]; exact fun e => hk (.inr e)
              have gk := Lib.hid (keptI_any Q5.out.bk (by omega))
              clear hk
              go_wp2_with fail
              refine gk.out.mono ?_
              rintro e w6 ⟨rfl, hB6⟩
              have Q6 := Lib.hid (Q5.out.below hB6)
              have B6 := Lib.hid (B5.out.trans (hB6.mono Q5.out.hb))
              clear gk hB6
              go_wp2
              go_roundw
              case rel => exact ⟨i + 1, (fun k => S k ∨ k = O), S5, by omega, by go_num, rfl, Lib.hid ((Q6.out).swap.mono (by omega)), B6⟩
              case measure => simp [intOf]; omega
    · obtain rfl : i = sl := by omega
      cases late with
      | false =>
        go_wp2
        go_ret
        exact ⟨rfl, hBw.out⟩
      | true =>
        have gs := Lib.hid (settled_any base B (2 * i) wr.heap.size wr hQ.out.bk (by omega) hQ.out.hb)
        go_wp2_with fail
        refine gs.out.mono ?_
        rintro e w5 ⟨rfl, hB5⟩
        have B5 := Lib.hid (hBw.out.trans hB5)
        clear gs hB5
        go_wp2
        go_ret
        exact ⟨rfl, B5.out⟩
set_option maxRecDepth 20000 in
set_option maxHeartbeats 8000000 in
theorem play_any (sl cap : Nat) (a b a2 b2 lo hi : Int) (A : Option Addr) (ops : List O5) (w : World) (hsl : ops.length = sl) (hsm : sl ≤ 10000000) (hr : RdS encO5 5 w A ops) (hA : ops ≠ [] → ∀ ad, A = some ad → ad.block < w.heap.size) :
    Calls Try.prog 28 #[.agg #[.int .i64 a, .int .i64 b], .agg #[.int .i64 a2, .int .i64 b2], .slice A sl cap, .int .i64 lo, .int .i64 hi] w fun e w' => e = .returned (.bool true) ∧ Below w.heap.size w w' := by
  have HR := Lib.hid hr
  have HSL := Lib.hid hsl
  have HA := Lib.hid hA
  obtain ⟨w1, hw1⟩ : ∃ w1, w1 = (w.alloc (.cells #[.int .i64 a, .int .i64 b] 23)).alloc (.cells #[.int .i64 a2, .int .i64 b2] 23) := ⟨_, rfl⟩
  have B1 : Below w.heap.size w w1 := by rw [hw1]; exact ((Below.refl _ _).alloc (Nat.le_refl _) _).alloc (by simp) _
  have M1 : Blk w1 w.heap.size 23 #[.int .i64 a, .int .i64 b] := by rw [hw1]; exact (Blk.new w _ _).alloc _
  have M2 : Blk w1 (w.heap.size + 1) 23 #[.int .i64 a2, .int .i64 b2] := by
    rw [hw1]
    have := Blk.new (w.alloc (.cells #[.int .i64 a, .int .i64 b] 23)) 23 #[.int .i64 a2, .int .i64 b2]
    rw [World.size_alloc] at this
    exact this
  obtain ⟨Ma, hMa⟩ : ∃ M, M = w.heap.size := ⟨_, rfl⟩
  obtain ⟨Mb, hMb⟩ : ∃ M, M = w.heap.size + 1 := ⟨_, rfl⟩
  rw [← hMa] at M1
  rw [← hMb] at M2
  have n0 : w1.cell? ⟨Ma, 0, none⟩ = some (.int .i64 a) := M1.cell 0
  have n1 : w1.cell? ⟨Ma, 1, none⟩ = some (.int .i64 b) := M1.cell 1
  have q0 : w1.cell? ⟨Mb, 0, none⟩ = some (.int .i64 a2) := M2.cell 0
  have q1 : w1.cell? ⟨Mb, 1, none⟩ = some (.int .i64 b2) := M2.cell 1
  have hsz : w.heap.size ≤ w1.heap.size := B1.size
  have g1 := Lib.hid (pass_any w1.heap.size w1.heap.size sl cap false a b a2 b2 lo hi A ops (w1.alloc (.cells #[.slice none 0 0, .bool false, .slice none 0 0, .slice none 0 0] 57)) hsl hsm (hr.below (B1.trans ((((Below.refl w1.heap.size w1).alloc (Nat.le_refl _) _)).mono hsz))) (by simp) ((BkI.made w1 false).mono (Nat.le_refl _) (Nat.zero_le _)) (fun hne ad e => Nat.lt_of_lt_of_le (hA hne ad e) hsz))
  have HB1 := Lib.hid B1
  have HM1 := Lib.hid M1
  have HM2 := Lib.hid M2
  have BB := Lib.hid ((Below.refl w1.heap.size w1).alloc (Nat.le_refl _) (.cells #[.slice none 0 0, .bool false, .slice none 0 0, .slice none 0 0] 57))
  clear hr hsl B1 M1 M2 hA
  go_enter Try.func28, Try.ntmps28
  go_upto_region 1 with fail
  rw [← hw1, ← hMb, ← hMa]
  clear hw1 hMa hMb
  go_wp2_with fail
  refine g1.out.mono ?_
  rintro e w2 ⟨rfl, hB2⟩
  have B2 := Lib.hid (show Below w1.heap.size w1 w2 from BB.out.trans hB2)
  have M1 := HM1.out.below B2.out HM1.out.lt
  have M2 := HM2.out.below B2.out HM2.out.lt
  have n0 : w2.cell? ⟨Ma, 0, none⟩ = some (.int .i64 a) := M1.cell 0
  have n1 : w2.cell? ⟨Ma, 1, none⟩ = some (.int .i64 b) := M1.cell 1
  have q0 : w2.cell? ⟨Mb, 0, none⟩ = some (.int .i64 a2) := M2.cell 0
  have q1 : w2.cell? ⟨Mb, 1, none⟩ = some (.int .i64 b2) := M2.cell 1
  have BW := Lib.hid (HB1.out.trans (B2.out.mono hsz))
  have hs2 : w.heap.size ≤ w2.heap.size := BW.out.size
  have g2 := Lib.hid (pass_any w2.heap.size w2.heap.size sl cap true a b a2 b2 lo hi A ops (w2.alloc (.cells #[.slice none 0 0, .bool true, .slice none 0 0, .slice none 0 0] 57)) HSL.out hsm (HR.out.below (BW.out.trans ((((Below.refl w2.heap.size w2).alloc (Nat.le_refl _) _)).mono hs2))) (by simp) ((BkI.made w2 true).mono (Nat.le_refl _) (Nat.zero_le _)) (fun hne ad e => Nat.lt_of_lt_of_le (HA.out hne ad e) hs2))
  have BB2 := Lib.hid ((Below.refl w2.heap.size w2).alloc (Nat.le_refl _) (.cells #[.slice none 0 0, .bool true, .slice none 0 0, .slice none 0 0] 57))
  clear g1 hB2 M1 M2 HM1 HM2 BB B2
  go_wp2_with fail
  refine g2.out.mono ?_
  rintro e w3 ⟨rfl, hB3⟩
  have B3 := Lib.hid (BW.out.trans ((BB2.out.trans hB3).mono hs2))
  clear g2 hB3
  go_wp2
  go_ret
  exact ⟨rfl, B3.out⟩
theorem hA_of {w : World} {A : Option Addr} {ops : List O5} (hr : RdS encO5 5 w A ops) : ops ≠ [] → ∀ ad, A = some ad → ad.block < w.heap.size := fun hne ad e => by
  cases ops with
  | nil => exact absurd rfl hne
  | cons x t =>
    obtain ⟨b, o, e2, hb, _⟩ := hr 0 x rfl
    rw [e] at e2
    cases e2
    exact hb
set_option maxHeartbeats 4000000 in
theorem locksAcquires (a b a2 b2 : Int) (A : Option Addr) (cap : Nat) (ops : List O5) (w : World) (hsm : ops.length ≤ 10000000) (hr : RdS encO5 5 w A ops) (hA : ops ≠ [] → ∀ ad, A = some ad → ad.block < w.heap.size) :
    Calls Try.prog 8 #[.agg #[.int .i64 a, .int .i64 b], .agg #[.int .i64 a2, .int .i64 b2], .slice A ops.length cap] w fun e w' => e = .returned (.bool true) ∧ Below w.heap.size w w' := by
  have Bw := (((Below.refl w.heap.size w).alloc (Nat.le_refl _) (.cells #[.int .i64 a, .int .i64 b] 23)).alloc (by simp) (.cells #[.int .i64 a2, .int .i64 b2] 23))
  have g1 := Lib.hid (play_any ops.length cap a b a2 b2 1 1 A ops _ rfl hsm (hr.below Bw) (fun hne ad e => Nat.lt_of_lt_of_le (hA hne ad e) Bw.size))
  have HB := Lib.hid Bw
  obtain ⟨sl, hsl⟩ : ∃ sl, sl = ops.length := ⟨_, rfl⟩
  rw [← hsl] at g1 ⊢
  clear hr hA hsm Bw hsl
  go_enter Try.func8, Try.ntmps8
  go_wp2_with fail
  refine g1.out.mono ?_
  rintro e w2 ⟨rfl, hB2⟩
  have B2 := Lib.hid (HB.out.trans (hB2.mono HB.out.size))
  clear g1 hB2
  go_wp2
  go_ret
  exact ⟨rfl, B2.out⟩
theorem row_LocksAcquires (a b a2 b2 : Int) (A : Option Addr) (cap : Nat) (ops : List O5) (w : World) (hsm : ops.length ≤ 10000000) (hr : RdS encO5 5 w A ops) :
    Calls Try.prog 8 #[.agg #[.int .i64 a, .int .i64 b], .agg #[.int .i64 a2, .int .i64 b2], .slice A ops.length cap] w fun e w' => e = .returned (.bool true) ∧ Below w.heap.size w w' :=
  locksAcquires a b a2 b2 A cap ops w hsm hr (hA_of hr)
set_option maxHeartbeats 4000000 in
theorem locksReleases (a b a2 b2 : Int) (A : Option Addr) (cap : Nat) (ops : List O5) (w : World) (hsm : ops.length ≤ 10000000) (hr : RdS encO5 5 w A ops) (hA : ops ≠ [] → ∀ ad, A = some ad → ad.block < w.heap.size) :
    Calls Try.prog 9 #[.agg #[.int .i64 a, .int .i64 b], .agg #[.int .i64 a2, .int .i64 b2], .slice A ops.length cap] w fun e w' => e = .returned (.bool true) ∧ Below w.heap.size w w' := by
  have Bw := (((Below.refl w.heap.size w).alloc (Nat.le_refl _) (.cells #[.int .i64 a, .int .i64 b] 23)).alloc (by simp) (.cells #[.int .i64 a2, .int .i64 b2] 23))
  have g1 := Lib.hid (play_any ops.length cap a b a2 b2 2 3 A ops _ rfl hsm (hr.below Bw) (fun hne ad e => Nat.lt_of_lt_of_le (hA hne ad e) Bw.size))
  have HB := Lib.hid Bw
  obtain ⟨sl, hsl⟩ : ∃ sl, sl = ops.length := ⟨_, rfl⟩
  rw [← hsl] at g1 ⊢
  clear hr hA hsm Bw hsl
  go_enter Try.func9, Try.ntmps9
  go_wp2_with fail
  refine g1.out.mono ?_
  rintro e w2 ⟨rfl, hB2⟩
  have B2 := Lib.hid (HB.out.trans (hB2.mono HB.out.size))
  clear g1 hB2
  go_wp2
  go_ret
  exact ⟨rfl, B2.out⟩
theorem row_LocksReleases (a b a2 b2 : Int) (A : Option Addr) (cap : Nat) (ops : List O5) (w : World) (hsm : ops.length ≤ 10000000) (hr : RdS encO5 5 w A ops) :
    Calls Try.prog 9 #[.agg #[.int .i64 a, .int .i64 b], .agg #[.int .i64 a2, .int .i64 b2], .slice A ops.length cap] w fun e w' => e = .returned (.bool true) ∧ Below w.heap.size w w' :=
  locksReleases a b a2 b2 A cap ops w hsm hr (hA_of hr)
set_option maxHeartbeats 4000000 in
theorem locksAsks (a b a2 b2 : Int) (A : Option Addr) (cap : Nat) (ops : List O5) (w : World) (hsm : ops.length ≤ 10000000) (hr : RdS encO5 5 w A ops) (hA : ops ≠ [] → ∀ ad, A = some ad → ad.block < w.heap.size) :
    Calls Try.prog 10 #[.agg #[.int .i64 a, .int .i64 b], .agg #[.int .i64 a2, .int .i64 b2], .slice A ops.length cap] w fun e w' => e = .returned (.bool true) ∧ Below w.heap.size w w' := by
  have Bw := (((Below.refl w.heap.size w).alloc (Nat.le_refl _) (.cells #[.int .i64 a, .int .i64 b] 23)).alloc (by simp) (.cells #[.int .i64 a2, .int .i64 b2] 23))
  have g1 := Lib.hid (play_any ops.length cap a b a2 b2 4 7 A ops _ rfl hsm (hr.below Bw) (fun hne ad e => Nat.lt_of_lt_of_le (hA hne ad e) Bw.size))
  have HB := Lib.hid Bw
  obtain ⟨sl, hsl⟩ : ∃ sl, sl = ops.length := ⟨_, rfl⟩
  rw [← hsl] at g1 ⊢
  clear hr hA hsm Bw hsl
  go_enter Try.func10, Try.ntmps10
  go_wp2_with fail
  refine g1.out.mono ?_
  rintro e w2 ⟨rfl, hB2⟩
  have B2 := Lib.hid (HB.out.trans (hB2.mono HB.out.size))
  clear g1 hB2
  go_wp2
  go_ret
  exact ⟨rfl, B2.out⟩
theorem row_LocksAsks (a b a2 b2 : Int) (A : Option Addr) (cap : Nat) (ops : List O5) (w : World) (hsm : ops.length ≤ 10000000) (hr : RdS encO5 5 w A ops) :
    Calls Try.prog 10 #[.agg #[.int .i64 a, .int .i64 b], .agg #[.int .i64 a2, .int .i64 b2], .slice A ops.length cap] w fun e w' => e = .returned (.bool true) ∧ Below w.heap.size w w' :=
  locksAsks a b a2 b2 A cap ops w hsm hr (hA_of hr)
set_option maxHeartbeats 4000000 in
theorem locksExact (a b a2 b2 : Int) (A : Option Addr) (cap : Nat) (ops : List O5) (w : World) (hsm : ops.length ≤ 10000000) (hr : RdS encO5 5 w A ops) (hA : ops ≠ [] → ∀ ad, A = some ad → ad.block < w.heap.size) :
    Calls Try.prog 11 #[.agg #[.int .i64 a, .int .i64 b], .agg #[.int .i64 a2, .int .i64 b2], .slice A ops.length cap] w fun e w' => e = .returned (.bool true) ∧ Below w.heap.size w w' := by
  have Bw := (((Below.refl w.heap.size w).alloc (Nat.le_refl _) (.cells #[.int .i64 a, .int .i64 b] 23)).alloc (by simp) (.cells #[.int .i64 a2, .int .i64 b2] 23))
  have g1 := Lib.hid (play_any ops.length cap a b a2 b2 1 7 A ops _ rfl hsm (hr.below Bw) (fun hne ad e => Nat.lt_of_lt_of_le (hA hne ad e) Bw.size))
  have HB := Lib.hid Bw
  obtain ⟨sl, hsl⟩ : ∃ sl, sl = ops.length := ⟨_, rfl⟩
  rw [← hsl] at g1 ⊢
  clear hr hA hsm Bw hsl
  go_enter Try.func11, Try.ntmps11
  go_wp2_with fail
  refine g1.out.mono ?_
  rintro e w2 ⟨rfl, hB2⟩
  have B2 := Lib.hid (HB.out.trans (hB2.mono HB.out.size))
  clear g1 hB2
  go_wp2
  go_ret
  exact ⟨rfl, B2.out⟩
theorem row_LocksExact (a b a2 b2 : Int) (A : Option Addr) (cap : Nat) (ops : List O5) (w : World) (hsm : ops.length ≤ 10000000) (hr : RdS encO5 5 w A ops) :
    Calls Try.prog 11 #[.agg #[.int .i64 a, .int .i64 b], .agg #[.int .i64 a2, .int .i64 b2], .slice A ops.length cap] w fun e w' => e = .returned (.bool true) ∧ Below w.heap.size w w' :=
  locksExact a b a2 b2 A cap ops w hsm hr (hA_of hr)
theorem step_pv {base X B i : Nat} {w : World} {late : Bool} {S D : Nat → Prop} (h : PP base w X B i true S) (hbk : BkI base w B late i w.heap.size) (hd : SetI w D) (hdj : ∀ k, S k → ¬ D k) (hb : base ≤ w.heap.size) (hi : i ≤ 300000000000) (kind ex mode owner : Int) (sec : Bool) :
    Calls Try.prog 27 #[.pointer (some ⟨X, 0, none⟩), .agg (opC kind sec ex mode owner)] w fun e w' => e = .returned (.bool true) ∧ (∃ S', PP base w' X B (i + 1) true S' ∧ ∀ k, S' k → ¬ D k) ∧ BkI base w' B late (i + 1) w'.heap.size ∧ SetI w' D ∧ Below base w w' ∧ Chg (DF base D) w w' := by
  obtain ⟨T, E, R, n, most, V, wait, L, A, c, P, turns, h1, h2, h3, h4, h5, h6, h7, h8, h9, h10⟩ := h.ok rfl
  refine (step_any base X T E R B n i most late i D kind ex mode owner sec w ⟨V, wait, L, A, c, P, turns, ⟨h3, h4, h5, hbk, hd, fun k hk hd => hdj k (h9 k hk) hd, fun k hk hd => hdj k (h10 k hk) hd⟩, h6, h7, h8⟩ h1 h2 hi hi hb).mono fun e w' hp => ?_
  obtain ⟨he, ⟨V', wait', L', A', c', P', turns', hs, hI, hG, hM⟩, hC⟩ := hp
  have hbel : Below base w w' := hC.below hb fun k _ hk hf => by have := hf.1; omega
  refine ⟨he, ⟨fun k => k = X ∨ Fp T E n V' k ∨ RFp R A' k, ⟨fun k hk => ?_, .inl rfl, fun _ => ⟨T, E, R, n, most, V', wait', L', A', c', P', turns', h1, h2, hs.px, hs.tab, hs.ref, hI, hG, hM, fun k hk => .inr (.inl hk), fun k hk => .inr (.inr hk)⟩, fun e => by cases e⟩, fun k hk hd => ?_⟩, hs.bk, hs.dI, hbel, hC⟩
  · rcases hk with rfl | hk | hk
    · exact ⟨_, _, hs.px, by rintro (h | h | h) <;> exact absurd h (by decide)⟩
    · obtain ⟨t, cs, hb, ht⟩ := fp_typ hs.tab hk
      exact ⟨t, cs, hb, by rcases ht with rfl | rfl | rfl <;> (rintro (h | h | h) <;> exact absurd h (by decide))⟩
    · obtain ⟨_, t, cs, hb, ht⟩ := hs.ref.s.typ hk
      exact ⟨t, cs, hb, by rcases ht with rfl | rfl <;> (rintro (h | h | h) <;> exact absurd h (by decide))⟩
  · rcases hk with rfl | hk | hk
    · exact hdj _ h.sx hd
    · exact hs.dT k hk hd
    · exact hs.dR k hk hd
set_option maxRecDepth 20000 in
set_option maxHeartbeats 8000000 in
theorem news_any (a b : Int) (w : World) : Calls Try.prog 7 #[.agg #[.int .i64 a, .int .i64 b]] w fun e w' => e = .returned (.bool true) ∧ Below w.heap.size w w' := by
  obtain ⟨w1, hw1⟩ : ∃ w1, w1 = (w.alloc (.cells #[.int .i64 a, .int .i64 b] 23)).alloc (.cells #[.slice none 0 0, .bool false, .slice none 0 0, .slice none 0 0] 57) := ⟨_, rfl⟩
  have B1 : Below w.heap.size w w1 := by rw [hw1]; exact ((Below.refl _ _).alloc (Nat.le_refl _) _).alloc (by simp) _
  have M1 : Blk w1 w.heap.size 23 #[.int .i64 a, .int .i64 b] := by rw [hw1]; exact (Blk.new w _ _).alloc _
  have K1 : BkI w.heap.size w1 (w.heap.size + 1) false 0 w1.heap.size := by
    rw [hw1]
    have := BkI.made (w.alloc (.cells #[.int .i64 a, .int .i64 b] 23)) false
    rw [World.size_alloc] at this
    exact (this.lower (Nat.le_succ _)).mono (Nat.le_refl _) (Nat.zero_le _)
  obtain ⟨M, hM⟩ : ∃ M, M = w.heap.size := ⟨_, rfl⟩
  obtain ⟨B, hB⟩ : ∃ B, B = w.heap.size + 1 := ⟨_, rfl⟩
  have hb1 : w.heap.size ≤ w1.heap.size := B1.size
  have hMl : M < w1.heap.size := by rw [hM]; exact M1.lt
  rw [← hM] at M1
  rw [← hB] at K1
  have g1 := Lib.hid (made_pp (B := B) (i := 0) (a := a) (b := b) hb1)
  have HB1 := Lib.hid B1
  have HM1 := Lib.hid M1
  have HK1 := Lib.hid K1
  clear B1 M1 K1
  go_enter Try.func7, Try.ntmps7
  go_wp2_with fail
  rw [← hw1, ← hB, ← hM]
  clear hw1 hB hM
  refine g1.out.mono ?_
  rintro e w2 ⟨X, v, S, rfl, hP, hS, hB2, hv⟩
  have HP := Lib.hid hP
  have HS := Lib.hid (show ∀ k, S k → ¬ (k = M) from fun k hk e => by have := hS k hk; omega)
  have B2 := Lib.hid (HB1.out.trans (hB2.mono hb1))
  have M2 := Lib.hid (HM1.out.below hB2 HM1.out.lt)
  have K2 := Lib.hid ((HK1.out.below hB2).mono (Nat.le_refl 0) hB2.size)
  have hb2 : w.heap.size ≤ w2.heap.size := Nat.le_trans hb1 hB2.size
  have HV := Lib.hid hv
  clear g1 hP hS hB2 hv HM1 HK1 HB1
  cases v with
  | false =>
    have x0 : w2.cell? ⟨X, 0, none⟩ = some nilP := (HP.out.no rfl).cell 0
    go_wp2
    go_ret
    exact ⟨rfl, B2.out⟩
  | true =>
    obtain ⟨pt, x0, hpt⟩ := HP.out.cellT
    have hpn : pt ≠ none := fun e => by have := hpt.1 e; cases this
    obtain ⟨pa, rfl⟩ : ∃ pa, pt = some pa := by
      cases pt with
      | none => exact absurd rfl hpn
      | some pa => exact ⟨pa, rfl⟩
    have hok := HV.out rfl
    have ha1 : -9223372036854775808 ≤ a - 1 ∧ a - 1 ≤ 9223372036854775807 := by have := hok.1; have := hok.2.1; omega
    have ha2 : 1 ≤ a ∧ a ≤ 4096 := ⟨hok.1, hok.2.1⟩
    have D2 := Lib.hid (show SetI w2 (fun k => k = M) from fun k hk => by rw [hk]; exact ⟨_, _, M2.out, by rintro (h | h | h) <;> exact absurd h (by decide)⟩)
    have gs := Lib.hid (step_pv HP.out K2.out D2.out HS.out hb2 (by omega) 5 0 0 0 false)
    clear hpt hpn hok
    go_wp2_with fail
    refine gs.out.mono ?_
    rintro e w3 ⟨rfl, ⟨S3, hP3, hS3⟩, hK3, hD3, hB3, hC3⟩
    have M3 := Lib.hid (hC3.blk M2.out fun _ hf => hf.2 rfl)
    have B3 := Lib.hid (B2.out.trans hB3)
    have hb3 : w.heap.size ≤ w3.heap.size := B3.out.size
    have gs2 := Lib.hid (step_pv hP3 hK3 hD3 hS3 hb3 (by omega) 6 (a - 1) 0 0 false)
    have m0 : w3.cell? ⟨M, 0, none⟩ = some (.int .i64 a) := M3.out.cell 0
    clear gs hP3 hK3 hD3 hS3 hB3 hC3 x0 HP K2 D2 HS
    go_wp2_with fail
    refine gs2.out.mono ?_
    rintro e w4 ⟨rfl, ⟨S4, hP4, hS4⟩, hK4, hD4, hB4, hC4⟩
    have M4 := Lib.hid (hC4.blk M3.out fun _ hf => hf.2 rfl)
    have B4 := Lib.hid (B3.out.trans hB4)
    have hb4 : w.heap.size ≤ w4.heap.size := B4.out.size
    have gs3 := Lib.hid (step_pv hP4 hK4 hD4 hS4 hb4 (by omega) 5 a 0 0 false)
    have m0 : w4.cell? ⟨M, 0, none⟩ = some (.int .i64 a) := M4.out.cell 0
    clear gs2 hP4 hK4 hD4 hS4 hB4 hC4
    go_wp2_with fail
    refine gs3.out.mono ?_
    rintro e w5 ⟨rfl, ⟨S5, hP5, hS5⟩, hK5, hD5, hB5, hC5⟩
    have B5 := Lib.hid (B4.out.trans hB5)
    have hb5 : w.heap.size ≤ w5.heap.size := B5.out.size
    have gs4 := Lib.hid (step_pv hP5 hK5 hD5 hS5 hb5 (by omega) 7 0 0 0 false)
    clear gs3 hP5 hK5 hD5 hS5 hB5 hC5
    go_wp2_with fail
    refine gs4.out.mono ?_
    rintro e w6 ⟨rfl, _, _, _, hB6, _⟩
    have B6 := Lib.hid (B5.out.trans hB6)
    clear gs4 hB6
    go_wp2
    go_ret
    exact ⟨rfl, B6.out⟩
end Go.Proofs.Ytkjbjfjgnponfaa
