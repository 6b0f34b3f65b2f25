/- upTo: the first n bytes of a list, with zeroes behind where it is shorter; make([]byte, n). -/
import Derived.Test.YtepikbmlhejobaaDoorLaw01a
import Derived.Test.YtepikbmlhejobaaDoorArr
import Derived.Test.YtepikbmlhejobaaDoorCrcLin
import Derived.Laws.MakeOwn
namespace Go.Proofs.YtepikbmlhejobaaDoor
open Go.RowKit
theorem mk_bytes (n : Nat) (h : n ≤ 140737488355328) (W : World) :
    (Instr.makeSlice 27 (.int .i64 (n : Int)) (.int .i64 (n : Int))).run Tryd.prog W = .ok (.slice (some ⟨W.heap.size, 0, none⟩) n n) (W.alloc (.cells (arr encB (List.replicate n 0)) 5)) := by
  obtain ⟨i, z, hi, hz, hs, hb, hc⟩ := bTy.ex
  have e1 : (Tryd.prog.info? 5).map (·.zero) = some (some (.int .u8 0)) := by kernel_rfl
  rw [hi] at e1
  have e2 : z = .int .u8 0 := by
    simp only [Option.map_some, Option.some.injEq] at e1
    rw [hz] at e1
    exact Option.some.inj e1
  subst e2
  have h2 := run_make W 27 5 i (.int .u8 0) bTy.und hi hz .i64 .i64 (n : Int) (n : Int) (by omega) (by omega) (by rw [hb]; omega) (by omega)
  rw [h2]
  have e3 : madeCells (Value.int .u8 0).cells ((n : Int).toNat * i.size) = arr encB (List.replicate n 0) := by
    rw [hs, Int.toNat_natCast, Nat.mul_one]
    apply Array.ext'
    apply List.ext_getElem?
    intro k
    simp [madeCells, arr, Value.cells, Nat.mod_one]
    by_cases hk : k < n
    · simp [hk]; rfl
    · simp [hk]
  rw [e3]
  simp
/-- what upTo answers -/
def upL (p : List UInt8) (n : Nat) : List UInt8 := p.take n ++ List.replicate (n - p.length) 0
theorem upL_length (p : List UInt8) (n : Nat) : (upL p n).length = n := by simp [upL]; omega
def upTo_ (p : List UInt8) (n k : Nat) : List UInt8 := p.take k ++ List.replicate (n - k) 0
theorem upTo_len (p : List UInt8) {n k : Nat} (hk : k ≤ p.length) (hn : k ≤ n) : (upTo_ p n k).length = n := by simp [upTo_]; omega
theorem upTo_set {p : List UInt8} {n k : Nat} {x : UInt8} (hx : p[k]? = some x) (hn : k < n) : (upTo_ p n k).set k x = upTo_ p n (k + 1) := by
  have hk := (List.getElem?_eq_some_iff.1 hx).1
  unfold upTo_
  rw [List.set_append_right _ _ (by simp; omega), List.length_take, Nat.min_eq_left (by omega), Nat.sub_self, show n - k = (n - (k + 1)) + 1 by omega, List.replicate_succ, List.set_cons_zero, take_snoc_ hx, List.append_assoc]
  rfl
set_option maxHeartbeats 1000000 in
theorem upTo_any (A : Option Addr) (c n m : Nat) (p : List UInt8) (w : World) (hm : p.length = m) (hm2 : m ≤ maxLen) (hn : n ≤ 140737488355328) (h : Rd encB w A p) :
    Calls Tryd.prog 35 #[.slice A m c, .int .i64 n] w fun e w' => e = .returned (.slice (some ⟨w.heap.size, 0, none⟩) n n) ∧ Own encB 5 w' w.heap.size (.slice (some ⟨w.heap.size, 0, none⟩) n n) (upL p n) ∧ Below w.heap.size w w' := by
  unfold maxLen at hm2
  have mk := mk_bytes n hn
  have hb0 : Blk (w.alloc (.cells (arr encB (List.replicate n 0)) 5)) w.heap.size 5 (arr encB (List.replicate n 0)) := Blk.new w _ _
  have ho0 : Own encB 5 (w.alloc (.cells (arr encB (List.replicate n 0)) 5)) w.heap.size (.slice (some ⟨w.heap.size, 0, none⟩) n n) (upTo_ p n 0) := by
    have := Own.of_blk (enc := encB) (l := upTo_ p n 0) (base := w.heap.size) (cap := n) hb0 (Nat.le_refl _) (by rw [upTo_len p (by omega) (by omega)]; exact Nat.le_refl _) (by unfold maxLen; omega) (by rw [arr_size, List.length_replicate]) (by rw [upTo_len p (by omega) (by omega), arr_list]; simp [upTo_])
    rwa [upTo_len p (by omega) (by omega)] at this
  have B0 := (Below.refl w.heap.size w).alloc (Nat.le_refl _) (.cells (arr encB (List.replicate n 0)) 5)
  go_enter Tryd.func35, Tryd.ntmps35
  go_wp2
  go_loopw [6] (fun i wr => ∃ k : Nat, k ≤ n ∧ k ≤ m ∧ i = .int .i64 k ∧ Own encB 5 wr w.heap.size (.slice (some ⟨w.heap.size, 0, none⟩) n n) (upTo_ p n k) ∧ Below w.heap.size w wr) (fun i _ => n - (intOf i).toNat)
  case atStart => exact ⟨0, by omega, by omega, rfl, ho0, B0⟩
  case round =>
    obtain ⟨k, hkn, hkm, rfl, hown, hB⟩ := hrel
    clear ho0 hb0 B0 mk
    have HM := Lib.hid hm
    clear hm
    by_cases hlt : k < n
    · by_cases hltm : k < m
      · obtain ⟨x, hx⟩ : ∃ x, p[k]? = some x := ⟨_, List.getElem?_eq_getElem (by rw [HM.out]; exact hltm)⟩
        obtain ⟨ad, e, hcell⟩ := (h.below hB) k x hx
        subst e
        obtain ⟨y, hy, hcy, hfr⟩ := hown.at_ hlt
        have HX := Lib.hid hx
        have hi1 : (k : Int) < (n : Int) := by omega
        have hi2 : (k : Int) < (m : Int) := by omega
        clear hx hy
        go_wp2
        go_roundw
        case rel =>
          have h2 := hown.set_ k x
          rw [upTo_set HX.out hlt] at h2
          exact ⟨k + 1, by omega, by omega, by go_num, h2, hB.setCell (Nat.le_refl _) _⟩
        case measure => simp [intOf]; omega
      · have hi1 : (k : Int) < (n : Int) := by omega
        have hi2 : ¬ (k : Int) < (m : Int) := by omega
        go_wp2
        go_ret
        obtain rfl : k = m := by omega
        refine ⟨rfl, ?_, hB⟩
        rw [show upL p n = upTo_ p n k by unfold upL upTo_; rw [List.take_of_length_le (by have := HM.out; omega), List.take_of_length_le (by have := HM.out; omega), HM.out]]
        exact hown
    · obtain rfl : k = n := by omega
      go_wp2
      go_ret
      refine ⟨rfl, ?_, hB⟩
      rw [show upL p k = upTo_ p k k by unfold upL upTo_; rw [show k - p.length = 0 by have := HM.out; omega, Nat.sub_self]]
      exact hown
end Go.Proofs.YtepikbmlhejobaaDoor
