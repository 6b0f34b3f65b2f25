/- The statement's 'lower' and 'upper': letters of a text turned, by contract. -/
import Derived.Test.YtepikbmlhejobaaRefHex
import Derived.Lib.ConvBytes
namespace Go.Proofs.Ytepikbmlhejobaa
open Go.RowKit

/-- a list of bytes that a conversion has made -/
def FB (w : World) (g : Nat) (l : List UInt8) : Prop := ∃ (cs : Array Value) (N : Nat), w.heap[g]? = some (.cells cs 5 (N, N + 1)) ∧ l.length ≤ N ∧ ∀ (j : Nat) (x : UInt8), l[j]? = some x → cs[j]? = some (encB x)
section
variable {w w' : World} {g : Nat} {l : List UInt8}
theorem FB.cell (h : FB w g l) {j : Nat} {x : UInt8} (hx : l[j]? = some x) : w.cell? ⟨g, j, none⟩ = some (encB x) := by
  obtain ⟨cs, N, h1, _, h3⟩ := h
  exact (cell_of_row w g j cs 5 (N, N + 1) h1).trans (h3 j x hx)
theorem FB.frozen (h : FB w g l) {j : Nat} (hj : j < l.length) : w.frozen? ⟨g, j, none⟩ = false := by
  obtain ⟨cs, N, h1, h2, _⟩ := h
  simp [World.frozen?, h1]
  omega
theorem FB.set_ (h : FB w g l) (j : Nat) (x : UInt8) : FB (w.setCell ⟨g, j, none⟩ (encB x)) g (l.set j x) := by
  obtain ⟨cs, N, h1, h2, h3⟩ := h
  refine ⟨cs.setIfInBounds j (encB x), N, by simp [World.setCell, Array.getElem?_modify, h1], by simpa using h2, fun i y hy => ?_⟩
  rw [List.getElem?_set] at hy
  split at hy
  · rename_i e
    subst e
    split at hy
    · rename_i hl
      cases hy
      have := h3 j l[j] (List.getElem?_eq_getElem hl)
      have hlt := (Array.getElem?_eq_some_iff.1 this).1
      simp [hlt]
    · cases hy
  · rename_i hne
    rw [Array.getElem?_setIfInBounds_ne (by omega)]
    exact h3 i y hy
theorem FB.made (w : World) (s : ByteArray) : FB (Lib.bytesWorld w 5 s) w.heap.size (strL s) := by
  refine ⟨_, _, Lib.bytesWorld_at_new w 5 s, by simp [Lib.bytesCells, strL], fun j x hx => ?_⟩
  have hj := (List.getElem?_eq_some_iff.1 hx).1
  rw [strL_length] at hj
  have h := Lib.bytesWorld_cell w 5 s j hj
  rw [cell_of_row _ _ _ _ _ _ (Lib.bytesWorld_at_new w 5 s)] at h
  rw [h]
  unfold strL at hx
  rw [List.getD_eq_getElem?_getD, hx]
  rfl
theorem below_bytes (w : World) (s : ByteArray) : Below w.heap.size w (Lib.bytesWorld w 5 s) := ⟨rfl, rfl, rfl, by rw [Lib.bytesWorld_size]; omega, fun k hk => Lib.bytesWorld_at_old w 5 s k hk⟩
theorem run_strF {P : Program} {e src dst n cap : Nat} (hs : P.underlying src = some (.slice e)) (he : P.underlying e = some (.int .u8)) (hd : P.underlying dst = some .string) (h : FB w g l) (hn : n = l.length) :
    (convert src dst (.slice (some ⟨g, 0, none⟩) n cap)).run P w = .ok (.string (strOf l)) w := by
  subst hn
  rw [← strOf_nums]
  refine run_convert_bytes_arg w src e hs he g 0 _ cap (l.map vB) (by simp) (fun i hi => ?_) dst hd
  have hx : l[i]? = some l[i] := List.getElem?_eq_getElem hi
  rw [Nat.zero_add, h.cell hx, List.getD_eq_getElem?_getD, List.getElem?_map, hx]
  rfl
end
/-- the letters turned up to k -/
def turned (f : UInt8 → UInt8) (l : List UInt8) (k : Nat) : List UInt8 := (l.take k).map f ++ l.drop k
theorem turned_length (f : UInt8 → UInt8) (l : List UInt8) (k : Nat) : (turned f l k).length = l.length := by simp [turned]; omega
theorem turned_zero (f : UInt8 → UInt8) (l : List UInt8) : turned f l 0 = l := by simp [turned]
theorem turned_all (f : UInt8 → UInt8) (l : List UInt8) {k : Nat} (h : l.length ≤ k) : turned f l k = l.map f := by simp [turned, List.take_of_length_le h, List.drop_eq_nil_of_le h]
theorem turned_at (f : UInt8 → UInt8) {l : List UInt8} {k : Nat} {x : UInt8} (h : l[k]? = some x) : (turned f l k)[k]? = some x := by
  have hk := (List.getElem?_eq_some_iff.1 h).1
  unfold turned
  rw [List.getElem?_append_right (by rw [List.length_map, List.length_take]; omega), List.getElem?_drop]
  simpa [List.length_take, Nat.min_eq_left (Nat.le_of_lt hk)] using h
theorem turned_set (f : UInt8 → UInt8) {l : List UInt8} {k : Nat} {x : UInt8} (h : l[k]? = some x) : (turned f l k).set k (f x) = turned f l (k + 1) := by
  have hk := (List.getElem?_eq_some_iff.1 h).1
  have hl : ((l.take k).map f).length = k := by simp; omega
  unfold turned
  rw [List.set_append_right _ _ (by omega), hl, Nat.sub_self, List.drop_eq_getElem_cons hk, List.set_cons_zero, take_snoc_ h, List.map_append, List.append_assoc]
  rfl
theorem turned_same (f : UInt8 → UInt8) {l : List UInt8} {k : Nat} {x : UInt8} (h : l[k]? = some x) (hf : f x = x) : turned f l (k + 1) = turned f l k := by
  have h2 := turned_set f h
  rw [hf] at h2
  rw [← h2]
  have h3 := turned_at f h
  obtain ⟨hlt, hv⟩ := List.getElem?_eq_some_iff.1 h3
  conv => lhs; rw [← hv]
  exact List.set_getElem_self hlt
def lowB (c : UInt8) : UInt8 := if 65 ≤ c ∧ c ≤ 70 then c + 32 else c
def uppB (c : UInt8) : UInt8 := if 97 ≤ c ∧ c ≤ 102 then c - 32 else c
theorem le_vB (a b : UInt8) : a ≤ b ↔ vB a ≤ vB b := by unfold vB; rw [UInt8.le_iff_toNat_le]; omega
theorem lowB_in {c : UInt8} (h1 : 65 ≤ vB c) (h2 : vB c ≤ 70) : vB c + 32 = vB (lowB c) := by
  unfold lowB
  rw [if_pos ⟨(le_vB 65 c).2 h1, (le_vB c 70).2 h2⟩]
  unfold vB at *
  rw [UInt8.toNat_add]
  show _ = (((c.toNat + 32) % 256 : Nat) : Int)
  omega
theorem uppB_in {c : UInt8} (h1 : 97 ≤ vB c) (h2 : vB c ≤ 102) : vB c - 32 = vB (uppB c) := by
  unfold uppB
  rw [if_pos ⟨(le_vB 97 c).2 h1, (le_vB c 102).2 h2⟩]
  unfold vB at *
  rw [UInt8.toNat_sub]
  show _ = (((256 - 32 + c.toNat) % 256 : Nat) : Int)
  omega
theorem lowB_out {c : UInt8} (h : ¬ (65 ≤ vB c ∧ vB c ≤ 70)) : lowB c = c := by
  unfold lowB
  rw [if_neg fun hh => h ⟨(le_vB 65 c).1 hh.1, (le_vB c 70).1 hh.2⟩]
theorem uppB_out {c : UInt8} (h : ¬ (97 ≤ vB c ∧ vB c ≤ 102)) : uppB c = c := by
  unfold uppB
  rw [if_neg fun hh => h ⟨(le_vB 97 c).1 hh.1, (le_vB c 102).1 hh.2⟩]

set_option maxRecDepth 20000 in
set_option maxHeartbeats 2000000 in
theorem lower_any (s : ByteArray) (w : World) (hs : s.size ≤ 9223372036854775807) :
    Calls Try.prog 22 #[.string s] w fun e w' => e = .returned (.string (strOf ((strL s).map lowB))) ∧ Below w.heap.size w w' := by
  have hcv := fun W => Lib.run_convert_string_bytes (P := Try.prog) W 9 23 5 s Try.underlying9 Try.underlying23 Try.underlying5
  have hf0 := FB.made w s
  have hB0 := below_bytes w s
  have hz0 := Lib.bytesWorld_size w 5 s
  obtain ⟨W0, hW0⟩ : ∃ W, W = Lib.bytesWorld w 5 s := ⟨_, rfl⟩
  rw [← hW0] at hf0 hB0 hz0
  have hn := strL_length s
  have Hn := Lib.hid hn
  clear hn
  go_enter Try.func22, Try.ntmps22
  go_wp2_with fail
  rw [← hW0]
  clear hW0
  go_loopw [4] (fun c wr => ∃ k : Nat, k ≤ s.size ∧ c = .int .i64 k ∧ FB wr w.heap.size (turned lowB (strL s) k) ∧ Below w.heap.size w wr) (fun c _ => s.size - (intOf c).toNat)
  case atStart => exact ⟨0, by omega, rfl, by rw [turned_zero]; exact hf0, hB0⟩
  case round =>
    obtain ⟨k, hk, rfl, hf, hB⟩ := hrel
    clear hf0 hB0 hz0 hcv
    by_cases hlt : k < s.size
    · obtain ⟨c, hx⟩ : ∃ x, (strL s)[k]? = some x := ⟨_, List.getElem?_eq_getElem (by rw [Hn.out]; exact hlt)⟩
      have hc := hf.cell (turned_at lowB hx)
      have hfr := hf.frozen (j := k) (by rw [turned_length, Hn.out]; exact hlt)
      have hlt1 : (k : Int) < s.size := by omega
      have hk0 : (0 : Int) ≤ k := by omega
      have Hx := Lib.hid hx
      clear hx
      by_cases hin : 65 ≤ vB c ∧ vB c ≤ 70
      · obtain ⟨h1, h2⟩ := hin
        have hj := lowB_in h1 h2
        go_wp2
        go_roundw
        case rel =>
          refine ⟨k + 1, by omega, by go_num, ?_, hB.setCell (Nat.le_refl _) _⟩
          have := hf.set_ k (lowB c)
          rw [turned_set lowB Hx.out] at this
          exact this
        case measure => simp [intOf]; omega
      · have hsame := lowB_out hin
        have Hsame := Lib.hid hsame
        have hor : vB c < 65 ∨ (65 ≤ vB c ∧ 70 < vB c) := by omega
        clear hin hsame
        rcases hor with g1 | ⟨g1, g2⟩
        all_goals
          go_wp2
          go_roundw
          case rel => exact ⟨k + 1, by omega, by go_num, by rw [turned_same lowB Hx.out Hsame.out]; exact hf, hB⟩
          case measure => simp [intOf]; omega
    · obtain rfl : k = s.size := by omega
      rw [turned_all lowB (strL s) (by rw [Hn.out]; omega)] at hf
      have hst := fun cap => run_strF (P := Try.prog) (cap := cap) Try.underlying23 Try.underlying5 Try.underlying9 hf (n := s.size) (by rw [List.length_map, Hn.out])
      go_wp2
      go_ret
      exact ⟨rfl, hB⟩

set_option maxRecDepth 20000 in
set_option maxHeartbeats 2000000 in
theorem upper_any (s : ByteArray) (w : World) (hs : s.size ≤ 9223372036854775807) :
    Calls Try.prog 21 #[.string s] w fun e w' => e = .returned (.string (strOf ((strL s).map uppB))) ∧ Below w.heap.size w w' := by
  have hcv := fun W => Lib.run_convert_string_bytes (P := Try.prog) W 9 23 5 s Try.underlying9 Try.underlying23 Try.underlying5
  have hf0 := FB.made w s
  have hB0 := below_bytes w s
  have hz0 := Lib.bytesWorld_size w 5 s
  obtain ⟨W0, hW0⟩ : ∃ W, W = Lib.bytesWorld w 5 s := ⟨_, rfl⟩
  rw [← hW0] at hf0 hB0 hz0
  have hn := strL_length s
  have Hn := Lib.hid hn
  clear hn
  go_enter Try.func21, Try.ntmps21
  go_wp2_with fail
  rw [← hW0]
  clear hW0
  go_loopw [4] (fun c wr => ∃ k : Nat, k ≤ s.size ∧ c = .int .i64 k ∧ FB wr w.heap.size (turned uppB (strL s) k) ∧ Below w.heap.size w wr) (fun c _ => s.size - (intOf c).toNat)
  case atStart => exact ⟨0, by omega, rfl, by rw [turned_zero]; exact hf0, hB0⟩
  case round =>
    obtain ⟨k, hk, rfl, hf, hB⟩ := hrel
    clear hf0 hB0 hz0 hcv
    by_cases hlt : k < s.size
    · obtain ⟨c, hx⟩ : ∃ x, (strL s)[k]? = some x := ⟨_, List.getElem?_eq_getElem (by rw [Hn.out]; exact hlt)⟩
      have hc := hf.cell (turned_at uppB hx)
      have hfr := hf.frozen (j := k) (by rw [turned_length, Hn.out]; exact hlt)
      have hlt1 : (k : Int) < s.size := by omega
      have hk0 : (0 : Int) ≤ k := by omega
      have Hx := Lib.hid hx
      clear hx
      by_cases hin : 97 ≤ vB c ∧ vB c ≤ 102
      · obtain ⟨h1, h2⟩ := hin
        have hj := uppB_in h1 h2
        go_wp2
        go_roundw
        case rel =>
          refine ⟨k + 1, by omega, by go_num, ?_, hB.setCell (Nat.le_refl _) _⟩
          have := hf.set_ k (uppB c)
          rw [turned_set uppB Hx.out] at this
          exact this
        case measure => simp [intOf]; omega
      · have hsame := uppB_out hin
        have Hsame := Lib.hid hsame
        have hor : vB c < 97 ∨ (97 ≤ vB c ∧ 102 < vB c) := by omega
        clear hin hsame
        rcases hor with g1 | ⟨g1, g2⟩
        all_goals
          go_wp2
          go_roundw
          case rel => exact ⟨k + 1, by omega, by go_num, by rw [turned_same uppB Hx.out Hsame.out]; exact hf, hB⟩
          case measure => simp [intOf]; omega
    · obtain rfl : k = s.size := by omega
      rw [turned_all uppB (strL s) (by rw [Hn.out]; omega)] at hf
      have hst := fun cap => run_strF (P := Try.prog) (cap := cap) Try.underlying23 Try.underlying5 Try.underlying9 hf (n := s.size) (by rw [List.length_map, Hn.out])
      go_wp2
      go_ret
      exact ⟨rfl, hB⟩
end Go.Proofs.Ytepikbmlhejobaa
