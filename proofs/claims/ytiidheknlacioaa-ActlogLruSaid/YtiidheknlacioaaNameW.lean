/- Package replicalaw04: name, by contract. -/
import Derived.Test.YtiidheknlacioaaProg
import Derived.Test.YtiidheknlacioaaNameP
import Derived.Laws.Concat
import Derived.Laws.BytesString
namespace Go.Proofs.Ytiidheknlacioaa
open Go.RowKit
set_option linter.unusedVariables false
set_option linter.unusedSimpArgs false
/-- one digit more, ahead -/
theorem digs_front (n i : Nat) : digs n (i + 1) = UInt8.ofNat (48 + n / 10 ^ i % 10) :: digs n i := by
  induction i generalizing n with
  | zero => simp [digs]
  | succ i ih =>
    rw [digs, ih, List.cons_append, ← digs.eq_2 n i]
    congr 3
    rw [Nat.div_div_eq_div_mul, Nat.pow_succ, Nat.mul_comm (10 ^ i) 10]
/-- the text of the last i digits -/
def digB (n i : Nat) : ByteArray := ⟨(digs n i).toArray⟩
theorem digB_size (n i : Nat) : (digB n i).size = i := by show (digs n i).toArray.size = i; rw [List.size_toArray, digs_len]
theorem digB_front (n i : Nat) : (⟨#[UInt8.ofNat (48 + n / 10 ^ i % 10)]⟩ : ByteArray) ++ digB n i = digB n (i + 1) := by
  show (⟨([UInt8.ofNat (48 + n / 10 ^ i % 10)] : List UInt8).toArray⟩ : ByteArray) ++ ⟨(digs n i).toArray⟩ = ⟨(digs n (i + 1)).toArray⟩
  rw [ByteArray.mk_append_mk, digs_front]
  simp
theorem conv1 (W : World) (v : Int) (h : 0 ≤ v ∧ v < 256) : (convert 60 9 (.slice (some ⟨W.heap.size, 0, none⟩) 1 1)).run Try.prog (W.alloc (.cells #[.int .u8 v] 5)) = .ok (.string ⟨#[UInt8.ofNat v.toNat]⟩) (W.alloc (.cells #[.int .u8 v] 5)) := by
  rw [run_convert_bytes_string _ 60 9 5 _ _ _ Try.underlying60 Try.underlying5 Try.underlying9]
  have h1 := run_loadCells_list (P := Try.prog) (w := W.alloc (.cells #[.int .u8 v] 5)) ⟨W.heap.size, 0, none⟩ [.int .u8 v] fun j u hj => by
    rw [add_lit_, Nat.zero_add, cell_of_row _ W.heap.size j _ 5 (0, 0) (heap_alloc_new W _)]
    simpa using hj
  have h2 := run_bytesToString (P := Try.prog) (W.alloc (.cells #[.int .u8 v] 5)) ⟨W.heap.size, 0, none⟩ 1 1 [v] (by simpa using h1)
  rw [h2]
  rfl
theorem natAbs_i64 {k : Int} (h : (Lit.int .i64 k).wf = true) : k.natAbs ≤ 9223372036854775808 := by have := wf64_ h; omega
set_option maxRecDepth 20000 in
set_option maxHeartbeats 4000000 in
theorem name_any (k : Int) (hk : (Lit.int .i64 k).wf = true) (w : World) : Calls Try.prog 60 #[.int .i64 k] w fun e w' => e = .returned (.string (nameB k)) ∧ Below w.heap.size w w' := by
  obtain ⟨n, hn⟩ : ∃ n, n = k.natAbs := ⟨_, rfl⟩
  have hkb := wf64_ hk
  obtain ⟨NG, hNG⟩ : ∃ b, b = decide (k < 0) := ⟨_, rfl⟩
  have HNG := Lib.hid hNG
  have Hn := Lib.hid hn
  have Hkb := Lib.hid hkb
  clear hk hkb hn hNG
  go_enter Try.func60, Try.ntmps60
  go_wp2
  rw [← HNG.out]
  go_loopw [0, 3, 5] (fun t0 t3 t5 wr => ∃ (i : Nat) (q : Int), i ≤ 20 ∧ t5 = .int .i64 (i : Int) ∧ t0 = .int .i64 q ∧ t3 = .string (digB n i) ∧ Hid (q.natAbs = n / 10 ^ i) ∧ Hid (-9223372036854775808 ≤ q ∧ q ≤ 9223372036854775807) ∧ Hid (Below w.heap.size w wr)) (fun _ _ t5 _ => 20 - (intOf t5).toNat)
  case atStart => exact ⟨0, k, Nat.zero_le _, rfl, rfl, rfl, Lib.hid (by rw [Hn.out]; simp), Hkb, Lib.hid (Below.refl _ _)⟩
  case round =>
    obtain ⟨i, q, hi, rfl, rfl, rfl, HQ, HQb, HB⟩ := hrel
    by_cases hlt : i < 20
    · have hlt' : (i : Int) < 20 := by omega
      have h10 : q.natAbs % 10 < 10 := Nat.mod_lt _ (by omega)
      have hqb := HQb.out
      have hq1 : IntKind.i64.wrap (q.tdiv 10) = q.tdiv 10 := i64_in_ _ (by
        have h1 : (q.tdiv 10).natAbs = q.natAbs / 10 := by rw [Int.natAbs_tdiv]; rfl
        omega)
      have hm : (q.tmod 10).natAbs = q.natAbs % 10 := by rw [Int.natAbs_tmod]; rfl
      obtain ⟨M, hM⟩ : ∃ M, M = n / 10 ^ i % 10 := ⟨_, rfl⟩
      have hM9 : M < 10 := by rw [hM]; exact Nat.mod_lt _ (by omega)
      have hqm : q.natAbs % 10 = M := by rw [HQ.out, hM]
      rw [hqm] at hm
      have HQ2 := Lib.hid (show (q.tdiv 10).natAbs = n / 10 ^ (i + 1) by rw [Int.natAbs_tdiv, HQ.out, Nat.pow_succ, ← Nat.div_div_eq_div_mul]; rfl)
      have HQ3 := Lib.hid (show -9223372036854775808 ≤ q.tdiv 10 ∧ q.tdiv 10 ≤ 9223372036854775807 by
        have h1 : (q.tdiv 10).natAbs = q.natAbs / 10 := by rw [Int.natAbs_tdiv]; rfl
        omega)
      obtain ⟨Dg, hDg⟩ : ∃ Dg : ByteArray, Dg = ⟨#[UInt8.ofNat (48 + M)]⟩ := ⟨_, rfl⟩
      have hcv := conv1 wr (48 + (M : Int)) (by omega)
      rw [show (48 + (M : Int)).toNat = 48 + M by omega, ← hDg] at hcv
      have hap : Dg ++ digB n i = digB n (i + 1) := by rw [hDg, hM, digB_front]
      have hs1 : Dg.size = 1 := by rw [hDg]; rfl
      have hs2 : (digB n i).size = i := digB_size n i
      have hadd : ∀ W, (Op.stringOp .add Dg (digB n i)).run Try.prog W = .ok (.string (digB n (i + 1))) W := fun W => by rw [run_string_add_sum W _ _ (by omega), hap]
      have hw48 : IntKind.i64.wrap (48 + (M : Int)) = 48 + (M : Int) := i64_in_ _ (by omega)
      have hu8 : (48 + (M : Int)) % 256 = 48 + (M : Int) := by omega
      have hwM : IntKind.i64.wrap (M : Int) = (M : Int) := i64_in_ _ (by omega)
      by_cases hneg : q.tmod 10 < 0
      · have e : q.tmod 10 = -(M : Int) := by omega
        have hMp : -(M : Int) < 0 := by omega
        clear hneg hm hDg hM hqm h10 hqb hap
        go_wp2
        go_roundw
        case rel => exact ⟨i + 1, q.tdiv 10, by omega, by go_num, rfl, rfl, HQ2, HQ3, Lib.hid (HB.out.alloc HB.out.size _)⟩
        case measure => simp [intOf]; omega
      · have e : q.tmod 10 = (M : Int) := by omega
        have hMp : ¬ (M : Int) < 0 := by omega
        clear hneg hm hDg hM hqm h10 hqb hap
        go_wp2
        go_roundw
        case rel => exact ⟨i + 1, q.tdiv 10, by omega, by go_num, rfl, rfl, HQ2, HQ3, Lib.hid (HB.out.alloc HB.out.size _)⟩
        case measure => simp [intOf]; omega
    · obtain rfl : i = 20 := by omega
      have HNM := HNG.out
      cases NG with
      | true =>
        have hk0 : k < 0 := by simpa using HNM.symm
        have hap : (⟨#[45]⟩ : ByteArray) ++ digB n 20 = nameB k := by
          show ((⟨([45] : List UInt8).toArray⟩ : ByteArray) ++ ⟨(digs n 20).toArray⟩) = _
          rw [ByteArray.mk_append_mk]
          unfold nameB nameL
          rw [if_pos hk0, ← Hn.out]
          simp
        have hs2 : (digB n 20).size = 20 := digB_size n 20
        have hs1 : (⟨#[45]⟩ : ByteArray).size = 1 := rfl
        have hadd : ∀ W, (Op.stringOp .add ⟨#[45]⟩ (digB n 20)).run Try.prog W = .ok (.string (nameB k)) W := fun W => by rw [run_string_add_sum W _ _ (by omega), hap]
        clear HNM hk0
        go_wp2
        go_ret
        exact ⟨rfl, HB.out⟩
      | false =>
        have hk0 : ¬ k < 0 := by simpa using HNM.symm
        have HE := Lib.hid (show nameB k = digB n 20 by unfold nameB nameL digB; rw [if_neg hk0, ← Hn.out])
        clear HNM hk0
        go_wp2
        go_ret
        exact ⟨by rw [HE.out]; rfl, HB.out⟩
end Go.Proofs.Ytiidheknlacioaa
