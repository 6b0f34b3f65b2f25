/- Digests as text: digest.Hex and the statement's 'equal', by contract. -/
import Derived.Test.YtepikbmlhejobaaDoorLaw01a
import Derived.Test.YtepikbmlhejobaaDoorArr
import Derived.StillTailTactics
import Derived.Deep.RegionHeld3
namespace Go.Proofs.YtepikbmlhejobaaDoor
open Go.RowKit

/-- a digit's letter; what Hex writes -/
def hexd (b : UInt8) : UInt8 := if b < 10 then 48 + b else 87 + b
def hexOf (l : List UInt8) : List UInt8 := l.flatMap fun (b : UInt8) => [hexd (b >>> 4), hexd (b &&& 15)]
theorem hexOf_length (l : List UInt8) : (hexOf l).length = 2 * l.length := by
  induction l with
  | nil => rfl
  | cons b l ih => simp only [hexOf, List.flatMap_cons, List.length_append, List.length_cons, List.length_nil] at *; omega
theorem hexOf_snoc (l : List UInt8) (b : UInt8) : hexOf (l ++ [b]) = hexOf l ++ [hexd (b >>> 4), hexd (b &&& 15)] := by simp [hexOf]
abbrev hexDigits : ByteArray := { data := #[48, 49, 50, 51, 52, 53, 54, 55, 56, 57, 97, 98, 99, 100, 101, 102] }
theorem hexd_at : ∀ n : Fin 16, hexDigits.data[n.1]? = some (hexd (UInt8.ofNat n.1)) := by decide
theorem run_hexd {P : Program} {t : TypeId} (ht : P.underlying t = some .string) (c : UInt8) (hc : c.toNat < 16) (W : World) :
    (Instr.index t (.string hexDigits) (.int .u8 (vB c))).run P W = .ok (encB (hexd c)) W := by
  have h := hexd_at ⟨c.toNat, hc⟩
  simp only [UInt8.ofNat_toNat] at h
  have hi : 0 ≤ vB c ∧ vB c < (hexDigits.size : Int) := by unfold vB; exact ⟨by omega, by show (c.toNat : Int) < 16; omega⟩
  rw [run_index_string W t hexDigits .u8 (vB c) ht, dif_pos hi]
  obtain ⟨hlt, hv⟩ := Array.getElem?_eq_some_iff.1 h
  have e : (vB c).toNat = c.toNat := by unfold vB; omega
  congr 2
  unfold vB
  show ((hexDigits.data[(vB c).toNat]'_).toNat : Int) = _
  simp only [e, hv]
theorem vB_shr4 (b : UInt8) : vB b / (16 : Int) = vB (b >>> 4) := by
  unfold vB
  rw [UInt8.toNat_shiftRight]
  show _ = (((b.toNat >>> 4 : Nat)) : Int)
  rw [Nat.shiftRight_eq_div_pow]; rfl
theorem vB_and15 (b : UInt8) : vB b % (16 : Int) = vB (b &&& 15) := by
  unfold vB
  rw [UInt8.toNat_and, show (15 : UInt8).toNat = 15 from rfl, show b.toNat &&& 15 = b.toNat % 16 from Nat.and_two_pow_sub_one_eq_mod b.toNat 4]; rfl
theorem shr4_lt (b : UInt8) : (b >>> 4).toNat < 16 := by have h := vB_shr4 b; have := b.toNat_lt; unfold vB at h; omega
theorem and15_lt (b : UInt8) : (b &&& 15).toNat < 16 := by have h := vB_and15 b; unfold vB at h; omega

set_option maxHeartbeats 1000000 in
theorem equal_any (l m : List UInt8) (w : World) (hl : l.length = 32) (hm : m.length = 32) :
    Calls Tryd.prog 21 #[.agg (arr encB l), .agg (arr encB m)] w fun e w' => e = .returned (.bool (decide (l = m))) ∧ Below w.heap.size w w' := by
  have B0 := ((Below.refl w.heap.size w).alloc (Nat.le_refl _) (.cells (arr encB l) 36)).alloc (by simp) (.cells (arr encB m) 36)
  have b1 : Blk ((w.alloc (.cells (arr encB l) 36)).alloc (.cells (arr encB m) 36)) w.heap.size 36 (arr encB l) := (Blk.new w _ _).alloc _
  have b2 : Blk ((w.alloc (.cells (arr encB l) 36)).alloc (.cells (arr encB m) 36)) (w.heap.size + 1) 36 (arr encB m) := by
    have := Blk.new (w.alloc (.cells (arr encB l) 36)) 36 (arr encB m)
    rwa [World.size_alloc] at this
  have Hl := Lib.hid hl
  have Hm := Lib.hid hm
  clear hl hm
  go_enter Tryd.func21, Tryd.ntmps21
  go_wp2
  go_loopw [5] (fun i wr => ∃ k : Nat, k ≤ 32 ∧ i = .int .i64 k ∧ l.take k = m.take k ∧ Blk wr w.heap.size 36 (arr encB l) ∧ Blk wr (w.heap.size + 1) 36 (arr encB m) ∧ Below w.heap.size w wr) (fun i _ => 32 - (intOf i).toNat)
  case atStart => exact ⟨0, by omega, rfl, rfl, b1, b2, B0⟩
  case round =>
    obtain ⟨k, hk, rfl, ht, hb1, hb2, hB⟩ := hrel
    have Ht := Lib.hid ht
    clear ht b1 b2 B0
    by_cases hlt : k < 32
    · obtain ⟨x, hx⟩ : ∃ x, l[k]? = some x := ⟨_, List.getElem?_eq_getElem (by rw [Hl.out]; exact hlt)⟩
      obtain ⟨y, hy⟩ : ∃ y, m[k]? = some y := ⟨_, List.getElem?_eq_getElem (by rw [Hm.out]; exact hlt)⟩
      have hc : wr.cell? ⟨w.heap.size, k, none⟩ = some (encB x) := (hb1.cell k).trans (arr_at hx)
      have hd : wr.cell? ⟨w.heap.size + 1, k, none⟩ = some (encB y) := (hb2.cell k).trans (arr_at hy)
      have hlt1 : (k : Int) < 32 := by omega
      have Hx := Lib.hid hx
      have Hy := Lib.hid hy
      clear hx hy
      by_cases hxy : x = y
      · have hn : (vB x != vB y) = false := by rw [hxy, bne_self_eq_false]
        have Hxy := Lib.hid hxy
        clear hxy
        go_wp2
        go_quiet (fail)
        go_wp2
        go_roundw
        case rel => exact ⟨k + 1, by omega, by go_num, by rw [take_snoc_ Hx.out, take_snoc_ Hy.out, Ht.out, Hxy.out], hb1.drewN _, hb2.drewN _, below_drewN hB _⟩
        case measure => simp [intOf]; omega
      · have hn : (vB x != vB y) = true := by rw [bne_iff_ne]; exact fun h => hxy (vB_inj h)
        have hf : decide (l = m) = false := decide_eq_false (getElem?_ne_of Hx.out Hy.out hxy)
        have Hf := Lib.hid hf
        clear hf hxy
        go_wp2
        go_quiet (fail)
        go_wp2
        go_ret
        exact ⟨by rw [Hf.out]; rfl, below_drewN hB _⟩
    · obtain rfl : k = 32 := by omega
      have ht : decide (l = m) = true := by
        have h2 := Ht.out
        rw [List.take_of_length_le (by rw [Hl.out]; omega), List.take_of_length_le (by rw [Hm.out]; omega)] at h2
        exact decide_eq_true h2
      have Hf := Lib.hid ht
      clear ht
      go_wp2
      go_ret
      exact ⟨by rw [Hf.out]; rfl, hB⟩

theorem arrTy : Tryd.prog.underlying 36 = some (.array 32 5) := Tryd.underlying36
theorem arrSz {l : List UInt8} (h : l.length = 32) : (Tryd.prog.info? 36).map (·.size) = some (arr encB l).size := by rw [arr_size, h]; kernel_rfl
theorem byteSz : (Tryd.prog.info? 5).map (·.size) = some 1 := by kernel_rfl
theorem u8_and15_ (x : UInt8) : bits .and .u8 (vB x) 15 = vB (x &&& 15) := u8_and_ x 15
attribute [local go_sem] u8_and15_ vB_shr4
set_option maxRecDepth 20000 in
set_option maxHeartbeats 2000000 in
theorem hex_any (l : List UInt8) (w : World) (hl : l.length = 32) :
    Calls Tryd.prog 42 #[.agg (arr encB l)] w fun e w' => e = .returned (.string (strOf (hexOf l))) ∧ Below w.heap.size w w' := by
  have hmk : ∀ W, (Instr.makeSlice 27 (.int .i64 0) (.int .i64 64)).run Tryd.prog W = .ok (.slice (some ⟨W.heap.size, 0, none⟩) 0 64) (W.alloc (.cells (Array.replicate 64 (.int .u8 0)) 5)) := fun _ => by kernel_rfl
  have hb0 : Blk ((w.alloc (.cells (arr encB l) 36)).alloc (.cells (Array.replicate 64 (.int .u8 0)) 5)) w.heap.size 36 (arr encB l) := (Blk.new w _ _).alloc _
  have hb1 : Blk ((w.alloc (.cells (arr encB l) 36)).alloc (.cells (Array.replicate 64 (.int .u8 0)) 5)) (w.heap.size + 1) 5 (Array.replicate 64 (.int .u8 0)) := by
    have := Blk.new (w.alloc (.cells (arr encB l) 36)) 5 (Array.replicate 64 (.int .u8 0))
    rwa [World.size_alloc] at this
  have B0 := ((Below.refl w.heap.size w).alloc (Nat.le_refl _) (.cells (arr encB l) 36)).alloc (by simp) (.cells (Array.replicate 64 (.int .u8 0)) 5)
  have Hs := Lib.hid (arrSz hl)
  have Hl := Lib.hid hl
  clear hl
  go_enter Tryd.func42, Tryd.ntmps42
  go_wp2_with ((with_reducible refine wpList_load_blk rfl 36 (.tmp 1) rfl w.heap.size 36 (arr encB l) ?hb rfl arrTy rfl Hs.out ?_); case hb => exact hb0)
  go_loopw [3, 8] (fun v i wr => ∃ k : Nat, k ≤ 32 ∧ i = .int .i64 k ∧ Own encB 5 wr w.heap.size v (hexOf (l.take k)) ∧ Below w.heap.size w wr) (fun _ i _ => 32 - (intOf i).toNat)
  case atStart => exact ⟨0, by omega, rfl, Own.of_blk (l := []) hb1 (by omega) (by simp) (by simp [maxLen]) (by simp) rfl, B0⟩
  case round =>
    obtain ⟨k, hk, rfl, hown, hB⟩ := hrel
    clear hb0 hb1 B0
    by_cases hlt : k < 32
    · obtain ⟨b, hx⟩ : ∃ x, l[k]? = some x := ⟨_, List.getElem?_eq_getElem (by rw [Hl.out]; exact hlt)⟩
      have hix := run_index_arr (P := Tryd.prog) (enc := encB) arrTy Tryd.underlying5 byteSz Hl.out hx
      have hd1 := run_hexd (P := Tryd.prog) Tryd.underlying9 (b >>> 4) (shr4_lt b)
      have hd2 := run_hexd (P := Tryd.prog) Tryd.underlying9 (b &&& 15) (and15_lt b)
      have Hx := Lib.hid hx
      clear hx
      have hlen : (hexOf (l.take k)).length = 2 * k := by rw [hexOf_length, List.length_take, Hl.out]; omega
      have Hlen := Lib.hid hlen
      clear hlen
      go_wp2
      go_region_held3 (fun _ => True) (first | trivial) ((refine step_appendO _ bTy encB_one (by rfl) (.tmp 11) (.tmp 18) (by rfl) w.heap.size _ (hexOf (l.take k)) [hexd (b >>> 4), hexd (b &&& 15)] (by rfl) (by exact (hown.drewN 1).alloc _) (some ⟨wr.heap.size, 0, none⟩) 2 (by rfl) (by exact Rd.two encB wr.drew 5 _ _) (by rw [Hlen.out]; simp [maxLen]; omega) (by rw [Hlen.out]; simp; omega) (by have := hB.size; simp; omega) ?_; intro v1 w1 hown1 hg1 hloc1))
      all_goals
        go_wp2
        go_roundw
        case rel => exact ⟨k + 1, by omega, by go_num, by rw [take_snoc_ Hx.out, hexOf_snoc]; exact hown1, below_own (((below_drewN hB 1).alloc hB.size _)) ((hown.drewN 1).alloc _) (Nat.le_refl _) hg1 (by have := hB.size; simp; omega)⟩
        case measure => simp [intOf]; omega
    · obtain rfl : k = 32 := by omega
      rw [List.take_of_length_le (by rw [Hl.out]; omega)] at hown
      have hst := run_str (P := Tryd.prog) Tryd.underlying27 Tryd.underlying5 Tryd.underlying9 hown
      go_wp2
      go_ret
      exact ⟨rfl, hB⟩
end Go.Proofs.YtepikbmlhejobaaDoor
