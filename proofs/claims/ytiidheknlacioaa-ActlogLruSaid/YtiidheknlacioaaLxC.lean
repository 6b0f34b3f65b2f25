/- ActlogLru: a call on both, by contract: Put, Refs, Slot, and what is no call. -/
import Derived.Test.YtiidheknlacioaaLxB
namespace Go.Proofs.Ytiidheknlacioaa
open Go.RowKit
set_option linter.unusedVariables false
set_option linter.unusedSimpArgs false
section
variable {base G H N : Nat} {w0 wr w' : World} {s : LruS} {r : RLru} {F FR : Nat → Nat → Prop}
/-- what stands behind the name of the key: both Lrus, and the call's own box -/
theorem texts_start (h : LX base G H w0 wr N s r F FR) (kd of_ key : Int) {w2 : World} (B2 : Below (wr.alloc (.cells #[.int .i64 kd, .int .i64 of_, .int .i64 key] 49)).heap.size (wr.alloc (.cells #[.int .i64 kd, .int .i64 of_, .int .i64 key] 49)) w2) :
    LX base G H w0 w2 N s r F FR ∧ w2.cell? ⟨wr.heap.size, 0, none⟩ = some (.int .i64 kd) ∧ w2.cell? ⟨wr.heap.size, 2, none⟩ = some (.int .i64 key) :=
  ⟨(h.below ((Below.refl wr.heap.size wr).alloc (Nat.le_refl _) _)).below B2, (B2.cell (p := ⟨wr.heap.size, 0, none⟩) (by simp)).trans ((Blk.new wr 49 _).cell 0), (B2.cell (p := ⟨wr.heap.size, 2, none⟩) (by simp)).trans ((Blk.new wr 49 _).cell 2)⟩
theorem LX.drew (h : LX base G H w0 wr N s r F FR) : LX base G H w0 wr.drew N s r F FR := h.below (below_drewN (Below.refl _ _) 1)
set_option maxRecDepth 20000 in
set_option maxHeartbeats 4000000 in
theorem texts_put (h : LX base G H w0 wr N s r F FR) (of_ key i : Int) (hk : (Lit.int .i64 key).wf = true) (hN : N < 4611686018427387904) :
    Calls Try.prog 24 #[.pointer (some ⟨G, 0, none⟩), .pointer (some ⟨H, 0, none⟩), .agg #[.int .i64 1, .int .i64 of_, .int .i64 key], .int .i64 i] wr (TxP base G H w0 N FR) := by
  have HNM := Lib.hid (fun w => name_any key hk w)
  have HK := Lib.hid hk
  have Hh := Lib.hid h
  clear h hk
  go_enter Try.func24, Try.ntmps24
  go_wp2_with fail
  refine (HNM.out _).mono ?_
  rintro e w2 ⟨rfl, B2⟩
  obtain ⟨l2, x0, x2⟩ := texts_start Hh.out 1 of_ key B2
  have L2 := Lib.hid l2.drew
  have T0 : w2.drew.cell? ⟨wr.heap.size, 2, none⟩ = some (.int .i64 key) := x2
  have HT0 := Lib.hid T0
  have HP := Lib.hid (KS.put_any key L2.out.lru HK.out (by omega) L2.out.rl)
  clear l2 B2 T0
  go_wp2_with fail
  go_region_held3 (fun w' => w'.cell? ⟨wr.heap.size, 2, none⟩ = some (.int .i64 key)) (first | exact HT0.out | exact HY.out | exact HZ.out) (first
    | (go_at_call 15; (with_reducible refine (num_any _ _).mono ?_); rintro e w' ⟨rfl, rfl⟩)
    | (go_at_call 63; (with_reducible refine HP.out.mono ?_); rintro e w3 ⟨rfl, F3, L3, k3, q3⟩; have HT := Lib.hid (L2.out.turn (r' := rPutT r s key) (L3.mono (Nat.le_succ N)) k3 q3); have HY := Lib.hid (k3.cell (fun hf => by have := Hh.out.lru.fp_lt hf; omega) HT0.out); have HG := Lib.hid (HT.out.1.put L2.out.sim (fun i => by have := refsLe_at (by omega) L2.out.rl i; omega) (by have := L2.out.pl; omega) key); clear L3 k3 q3)
    | (go_at_call 64; (with_reducible refine HG.out.mono ?_); rintro e w4 ⟨rfl, R4, c4⟩; have HZ := Lib.hid (c4.cell (fun hf => by have := Hh.out.ref.fp_lt hf; omega) HY.out); have L4 := Lib.hid (HT.out.2 w4 R4 c4 (L2.out.sim.put key) (refsLe_mono (refsLe_put (by omega) L2.out.rl key) (by omega)) (by have := putT_puts r s key; have := L2.out.pl; omega)); clear R4 c4))
  go_wp2_with fail
  go_ret
  exact ⟨by simp, _, _, _, L4.out⟩
set_option maxRecDepth 20000 in
set_option maxHeartbeats 4000000 in
theorem texts_refs (h : LX base G H w0 wr N s r F FR) (of_ key i : Int) (hk : (Lit.int .i64 key).wf = true) :
    Calls Try.prog 24 #[.pointer (some ⟨G, 0, none⟩), .pointer (some ⟨H, 0, none⟩), .agg #[.int .i64 2, .int .i64 of_, .int .i64 key], .int .i64 i] wr (TxP base G H w0 N FR) := by
  have HNM := Lib.hid (fun w => name_any key hk w)
  have HK := Lib.hid hk
  have Hh := Lib.hid h
  clear h hk
  go_enter Try.func24, Try.ntmps24
  go_wp2_with fail
  refine (HNM.out _).mono ?_
  rintro e w2 ⟨rfl, B2⟩
  obtain ⟨l2, x0, x2⟩ := texts_start Hh.out 2 of_ key B2
  have L2 := Lib.hid l2.drew
  have T0 : w2.drew.cell? ⟨wr.heap.size, 2, none⟩ = some (.int .i64 key) := x2
  have HT0 := Lib.hid T0
  have HP := Lib.hid (KS.refs_any key L2.out.lru HK.out)
  have HG := Lib.hid (L2.out.ref.refs L2.out.sim key)
  have hX : wr.heap.size < w2.drew.heap.size := by have := B2.size; simp at this; show wr.heap.size < w2.heap.size; omega
  have HX := Lib.hid hX
  clear l2 B2 T0 hX
  go_wp2_with fail
  go_region_held3 (fun w' => w'.cell? ⟨wr.heap.size, 2, none⟩ = some (.int .i64 key)) (first | exact HT0.out | exact HZ.out) (first
    | (go_at_call 65; (with_reducible refine HP.out.mono ?_); rintro e w' ⟨rfl, rfl⟩)
    | (go_at_call 66; (with_reducible refine HG.out.mono ?_); rintro e w4 ⟨rfl, B4⟩; have HZ := Lib.hid ((B4.cell (p := ⟨wr.heap.size, 2, none⟩) HX.out).trans HT0.out); have L4 := Lib.hid (L2.out.below B4); clear B4))
  go_wp2_with fail
  go_ret
  exact ⟨by simp, _, _, _, L4.out.next (Nat.le_succ N)⟩
set_option maxRecDepth 20000 in
set_option maxHeartbeats 4000000 in
theorem texts_slot (h : LX base G H w0 wr N s r F FR) (of_ key i : Int) (hk : (Lit.int .i64 key).wf = true) :
    Calls Try.prog 24 #[.pointer (some ⟨G, 0, none⟩), .pointer (some ⟨H, 0, none⟩), .agg #[.int .i64 3, .int .i64 of_, .int .i64 key], .int .i64 i] wr (TxP base G H w0 N FR) := by
  have HNM := Lib.hid (fun w => name_any key hk w)
  have HK := Lib.hid hk
  have Hh := Lib.hid h
  clear h hk
  go_enter Try.func24, Try.ntmps24
  go_wp2_with fail
  refine (HNM.out _).mono ?_
  rintro e w2 ⟨rfl, B2⟩
  obtain ⟨l2, x0, x2⟩ := texts_start Hh.out 3 of_ key B2
  have L2 := Lib.hid l2.drew
  have T0 : w2.drew.cell? ⟨wr.heap.size, 2, none⟩ = some (.int .i64 key) := x2
  have HT0 := Lib.hid T0
  have HP := Lib.hid (slot_anyS key L2.out.lru HK.out)
  have HG := Lib.hid (L2.out.ref.slot L2.out.sim key)
  have hX : wr.heap.size < w2.drew.heap.size := by have := B2.size; simp at this; show wr.heap.size < w2.heap.size; omega
  have HX := Lib.hid hX
  clear l2 B2 T0 hX
  go_wp2_with fail
  go_region_held3 (fun w' => w'.cell? ⟨wr.heap.size, 2, none⟩ = some (.int .i64 key)) (first | exact HT0.out | exact HZ.out) (first
    | (go_at_call 67; (with_reducible refine HP.out.mono ?_); rintro e w' ⟨rfl, rfl⟩)
    | (go_at_call 68; (with_reducible refine HG.out.mono ?_); rintro e w4 ⟨rfl, B4⟩; have HZ := Lib.hid ((B4.cell (p := ⟨wr.heap.size, 2, none⟩) HX.out).trans HT0.out); have L4 := Lib.hid (L2.out.below B4); clear B4))
  go_wp2_with fail
  go_ret
  exact ⟨by simp, _, _, _, L4.out.next (Nat.le_succ N)⟩
set_option maxRecDepth 20000 in
set_option maxHeartbeats 4000000 in
theorem texts_other (h : LX base G H w0 wr N s r F FR) (kd of_ key i : Int) (hk : (Lit.int .i64 key).wf = true) (h0 : kd ≠ 0) (h1 : kd ≠ 1) (h2 : kd ≠ 2) (h3 : kd ≠ 3) (h4 : kd ≠ 4) :
    Calls Try.prog 24 #[.pointer (some ⟨G, 0, none⟩), .pointer (some ⟨H, 0, none⟩), .agg #[.int .i64 kd, .int .i64 of_, .int .i64 key], .int .i64 i] wr (TxP base G H w0 N FR) := by
  have HNM := Lib.hid (fun w => name_any key hk w)
  have Hh := Lib.hid h
  have t0 : (kd == 0) = false := by simpa using h0
  have t1 : (kd == 1) = false := by simpa using h1
  have t2 : (kd == 2) = false := by simpa using h2
  have t3 : (kd == 3) = false := by simpa using h3
  have t4 : (kd == 4) = false := by simpa using h4
  clear h hk h0 h1 h2 h3 h4
  go_enter Try.func24, Try.ntmps24
  go_wp2_with fail
  refine (HNM.out _).mono ?_
  rintro e w2 ⟨rfl, B2⟩
  obtain ⟨l2, x0, x2⟩ := texts_start Hh.out kd of_ key B2
  have L2 := Lib.hid l2
  clear l2 B2
  go_wp2_with fail
  go_ret
  exact ⟨rfl, _, _, _, L2.out.next (Nat.le_succ N)⟩
end
end Go.Proofs.Ytiidheknlacioaa
