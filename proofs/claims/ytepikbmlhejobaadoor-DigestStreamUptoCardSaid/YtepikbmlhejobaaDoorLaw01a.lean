/- The helpers of the statements of layer 1 that read, copy or write lists of bytes: same, copied, roomy, given, untouched, spoil; each by contract. -/
import Derived.Test.YtepikbmlhejobaaDoorCrc
import Derived.Deep.QuietTactic
import Derived.BigQuiet
import Derived.WalkSpells
import Derived.Outline
namespace Go.Proofs.YtepikbmlhejobaaDoor
open Go.RowKit
attribute [local go_sem] signed_u32 max_u32 u32_not_ u8_to_u32 u32_xor_ u32_and1_ u8_or1_ u8_xor_
theorem bTy : SlTy Tryd.prog 27 5 1 1 := SlTy.mk' (z := .int .u8 0) Tryd.underlying27 (by kernel_rfl) rfl
theorem encB_one (x : UInt8) : (encB x).oneCell' = true := rfl
theorem take_snoc_ {α : Type} {l : List α} {k : Nat} {x : α} (h : l[k]? = some x) : l.take (k + 1) = l.take k ++ [x] := by rw [List.take_add_one, h]; rfl
theorem getElem?_ne_of {α : Type} {l m : List α} {k : Nat} {x y : α} (hx : l[k]? = some x) (hy : m[k]? = some y) (h : x ≠ y) : l ≠ m := by
  rintro rfl
  rw [hx] at hy
  exact h (Option.some.inj hy)

set_option maxHeartbeats 1000000 in
theorem same_any (A B : Option Addr) (c d : Nat) (l m : List UInt8) (w : World) (hl : l.length ≤ maxLen) (ha : Rd encB w A l) (hb : Rd encB w B m) :
    Calls Tryd.prog 38 #[.slice A l.length c, .slice B m.length d] w fun e w' => e = .returned (.bool (decide (l = m))) ∧ ∃ n, w' = w.drewN n := by
  unfold maxLen at hl
  by_cases hlen : l.length = m.length
  case neg =>
    have h1 : ((l.length : Int) != (m.length : Int)) = true := by rw [bne_iff_ne]; omega
    have h2 : decide (l = m) = false := by rw [decide_eq_false_iff_not]; intro e; exact hlen (by rw [e])
    rw [h2]
    go_enter Tryd.func38, Tryd.ntmps38
    go_wp2
    go_ret
    exact ⟨rfl, 0, rfl⟩
  have h1 : ((l.length : Int) != (m.length : Int)) = false := by rw [bne_eq_false_iff_eq]; omega
  have Hlen := Lib.hid hlen
  clear hlen
  go_enter Tryd.func38, Tryd.ntmps38
  go_wp2
  go_loopw [5] (fun i wr => ∃ k : Nat, k ≤ l.length ∧ i = .int .i64 k ∧ l.take k = m.take k ∧ ∃ n, wr = w.drewN n) (fun i _ => l.length - (intOf i).toNat)
  case atStart => exact ⟨0, by omega, rfl, rfl, 0, rfl⟩
  case round =>
    obtain ⟨k, hk, rfl, ht, n, rfl⟩ := hrel
    have Ht := Lib.hid ht
    clear ht
    by_cases hlt : k < l.length
    · obtain ⟨ad, x, rfl, hx, hc⟩ := ha.at_ hlt
      obtain ⟨bd, y, rfl, hy, hd⟩ := hb.at_ (k := k) (by rw [← Hlen.out]; exact hlt)
      have hlt' : (k : Int) < (m.length : Int) := by have := Hlen.out; omega
      have Hx := Lib.hid hx
      have Hy := Lib.hid hy
      clear hx hy
      by_cases hxy : x = y
      · have hn : (vB x != vB y) = false := by rw [hxy, bne_self_eq_false]
        have Hxy := Lib.hid hxy
        clear hxy
        go_wp2
        go_quiet (fail)
        go_wp2
        go_roundw
        case rel => exact ⟨k + 1, by omega, by go_num, by rw [take_snoc_ Hx.out, take_snoc_ Hy.out, Ht.out, Hxy.out], n + _, rfl⟩
        case measure => simp [intOf]; omega
      · have hn : (vB x != vB y) = true := by rw [bne_iff_ne]; exact fun h => hxy (vB_inj h)
        have hf : decide (l = m) = false := decide_eq_false (getElem?_ne_of Hx.out Hy.out hxy)
        have Hf := Lib.hid hf
        clear hf hxy
        go_wp2
        go_quiet (fail)
        go_wp2
        go_ret
        exact ⟨by rw [Hf.out]; rfl, _, World.drewN_drewN _ _ _⟩
    · obtain rfl : k = l.length := by omega
      have ht : decide (l = m) = true := by
        have h2 := Ht.out
        rw [List.take_length, Hlen.out, List.take_length] at h2
        exact decide_eq_true h2
      have Hf := Lib.hid ht
      clear ht
      go_wp2
      go_ret
      exact ⟨by rw [Hf.out]; rfl, _, rfl⟩

set_option maxHeartbeats 1000000 in
theorem copied_any (A : Option Addr) (c : Nat) (l : List UInt8) (w : World) (hn : l.length ≤ 140737488355328) (h : Rd encB w A l) :
    Calls Tryd.prog 26 #[.slice A l.length c] w fun e w' => ∃ v, e = .returned v ∧ Own encB 5 w' w.heap.size v l ∧ Below w.heap.size w w' := by
  go_enter Tryd.func26, Tryd.ntmps26
  go_wp2_with (at_builtin; refine wpList_appendO _ bTy encB_one rfl (.tmp 3) (.tmp 4) rfl w.heap.size _ [] l rfl (Own.made encB 5 w (Nat.le_refl _)) A c rfl (h.alloc _) (by simp [maxLen]; omega) (by simp; omega) (by simp) ?_; intro v' w1 hown hg hloc)
  go_ret
  exact ⟨v', rfl, by simpa using hown, below_own ((Below.refl _ w).alloc (Nat.le_refl _) _) (Own.made encB 5 w (Nat.le_refl _)) (Nat.le_refl _) hg (by simp)⟩

theorem copied_n (A : Option Addr) (c n : Nat) (l : List UInt8) (w : World) (hl : l.length = n) (hn : n ≤ 140737488355328) (h : Rd encB w A l) :
    Calls Tryd.prog 26 #[.slice A n c] w fun e w' => ∃ v, e = .returned v ∧ Own encB 5 w' w.heap.size v l ∧ Below w.heap.size w w' := by
  subst hl; exact copied_any A c l w hn h
/-- the k-th mark -/
def mark (k : Nat) : UInt8 := 165 ^^^ UInt8.ofNat k
def marks (k : Nat) : List UInt8 := (List.range k).map mark
theorem marks_length (k : Nat) : (marks k).length = k := by simp [marks]
theorem marks_succ (k : Nat) : marks (k + 1) = marks k ++ [mark k] := by simp [marks, List.range_succ]
theorem mark_is : ∀ k : Fin 150, bits .xor .i64 165 ((k.1 : Nat) : Int) % 256 = vB (mark k.1) := by decide +kernel

set_option maxHeartbeats 1000000 in
set_option maxRecDepth 20000 in
theorem roomy_any (A : Option Addr) (c : Nat) (l : List UInt8) (w : World) (hn : l.length ≤ 140737488351232) (h : Rd encB w A l) :
    Calls Tryd.prog 15 #[.slice A l.length c] w fun e w' => ∃ v, e = .returned v ∧ Own encB 5 w' w.heap.size v (l ++ marks 150) ∧ Below w.heap.size w w' := by
  go_enter Tryd.func15, Tryd.ntmps15
  go_wp2_with (at_builtin; refine wpList_appendO _ bTy encB_one rfl (.tmp 5) (.tmp 6) rfl w.heap.size _ [] l rfl (Own.made encB 5 w (Nat.le_refl _)) A c rfl (h.alloc _) (by simp [maxLen]; omega) (by simp; omega) (by simp) ?_; intro v0 w0 hown0 hg0 hloc0)
  have hB0 := below_own ((Below.refl _ w).alloc (Nat.le_refl _) _) (Own.made encB 5 w (Nat.le_refl _)) (Nat.le_refl _) hg0 (by simp)
  clear hg0 hloc0
  go_loopw [3, 4] (fun v i wr => ∃ k : Nat, k ≤ 150 ∧ i = .int .i64 k ∧ Own encB 5 wr w.heap.size v (l ++ marks k) ∧ Below w.heap.size w wr) (fun _ i _ => 150 - (intOf i).toNat)
  case atStart => exact ⟨0, by omega, rfl, by simpa [marks] using hown0, hB0⟩
  case round =>
    obtain ⟨k, hk, rfl, hown, hB⟩ := hrel
    clear hown0 hB0
    by_cases hlt : k < 150
    · have hmk := mark_is ⟨k, hlt⟩
      simp only at hmk
      have hlen : (l ++ marks k).length + [mark k].length ≤ 140737488355328 := by simp [marks_length]; omega
      have Hlen := Lib.hid hlen
      have Hn := Lib.hid hn
      clear hlen hn
      go_wp2_with (at_builtin; refine wpList_appendO _ bTy encB_one rfl (.tmp 12) (.tmp 16) rfl w.heap.size _ (l ++ marks k) [mark k] rfl (hown.alloc _) (some ⟨wr.heap.size, 0, none⟩) 1 rfl (Rd.one encB wr 5 (mark k)) (by have := Hlen.out; simp only [maxLen]; omega) (by have := Hlen.out; omega) (by have := hB.size; simp; omega) ?_; intro v1 w1 hown1 hg1 hloc1)
      go_roundw
      case rel => exact ⟨k + 1, by omega, by go_num, by rw [marks_succ, ← List.append_assoc]; exact hown1, below_own (hB.alloc hB.size _) (hown.alloc _) (Nat.le_refl _) hg1 (by have := hB.size; simp; omega)⟩
      case measure => simp [intOf]; omega
    · obtain rfl : k = 150 := by omega
      go_wp2
      go_ret
      exact ⟨_, rfl, hown, hB⟩

/-- what 'given' hands in: the row's beginning, or nil -/
def GivenPost (F : Option Addr) (n : Nat) (w : World) (e : Ending) (w' : World) : Prop := ∃ A' c', e = .returned (.slice A' n c') ∧ (A' = F ∨ A' = none ∧ n = 0) ∧ w = w'
theorem given_any (F A : Option Addr) (nf cf n c : Nat) (w : World) (hn : n ≤ cf) (hA : A = none → n = 0 ∧ c = 0) :
    Calls Tryd.prog 17 #[.slice F nf cf, .slice A n c] w (GivenPost F n w) := by
  have hc' : (n : Int) ≤ (cf : Int) := by omega
  have hnil := fun (wx : World) (a : Option Addr) (n' c' : Nat) => Lib.run_eql_slice_nil (P := Tryd.prog) wx 27 5 a n' c' 0 0 Tryd.underlying27
  cases A with
  | none =>
    obtain ⟨rfl, rfl⟩ := hA rfl
    go_enter Tryd.func17, Tryd.ntmps17
    go_wp2
    go_ret
    exact ⟨_, _, rfl, .inr ⟨rfl, rfl⟩, rfl⟩
  | some a =>
    go_enter Tryd.func17, Tryd.ntmps17
    go_wp2
    go_ret
    exact ⟨_, _, rfl, .inl (by cases F <;> simp), rfl⟩

theorem set_take_drop {α : Type} {f : α → α} {l : List α} {k : Nat} {x : α} (h : ((l.take k).map f ++ l.drop k)[k]? = some x) :
    ((l.take k).map f ++ l.drop k).set k (f x) = (l.take (k + 1)).map f ++ l.drop (k + 1) := by
  have hk : k < l.length := by
    have := (List.getElem?_eq_some_iff.1 h).1
    simp at this
    omega
  have hl : ((l.take k).map f).length = k := by simp; omega
  rw [List.getElem?_append_right (by omega), hl, Nat.sub_self, List.getElem?_drop, Nat.add_zero] at h
  rw [List.set_append_right _ _ (by omega), hl, Nat.sub_self, take_snoc_ h, List.drop_eq_getElem_cons hk, List.map_append, List.append_assoc]
  rfl

set_option maxHeartbeats 1000000 in
theorem spoil_any (g n cap base : Nat) (b : UInt8) (l : List UInt8) (w : World) (hn : l.length = n) (hc : cap ≤ maxLen) (h : Own encB 5 w base (.slice (some ⟨g, 0, none⟩) n cap) l) :
    Calls Tryd.prog 19 #[.slice (some ⟨g, 0, none⟩) n cap, encB b] w fun e w' => e = .returned (.tuple #[]) ∧ Own encB 5 w' base (.slice (some ⟨g, 0, none⟩) n cap) (l.map (· ^^^ (b ||| 1))) ∧ w.grownBy w' (some g) := by
  unfold maxLen at hc
  have hnc : n ≤ cap := by
    obtain ⟨A, c, hv, hle, _⟩ := h.slice
    cases hv
    exact hle
  go_enter Tryd.func19, Tryd.ntmps19
  go_wp2
  go_loopw [4] (fun i wr => ∃ k : Nat, k ≤ n ∧ i = .int .i64 k ∧ Own encB 5 wr base (.slice (some ⟨g, 0, none⟩) n cap) ((l.take k).map (· ^^^ (b ||| 1)) ++ l.drop k) ∧ w.grownBy wr (some g)) (fun i _ => n - (intOf i).toNat)
  case atStart => exact ⟨0, by omega, rfl, by simpa using h, ⟨rfl, rfl, rfl, Nat.le_refl _, fun _ _ _ => rfl⟩⟩
  case round =>
    obtain ⟨k, hk, rfl, hown, hg⟩ := hrel
    by_cases hlt : k < n
    · obtain ⟨x, hx, hcell, hfr⟩ := hown.at_ hlt
      have Hx := Lib.hid hx
      clear hx
      have hi1 : (k : Int) < (n : Int) := by omega
      go_wp2
      go_roundw
      case rel =>
        have h2 := hown.set_ k (x ^^^ (b ||| 1))
        rw [set_take_drop Hx.out] at h2
        exact ⟨k + 1, by omega, by go_num, h2, only_setCell hg (.inl rfl) _⟩
      case measure => simp [intOf]; omega
    · obtain rfl : k = n := by omega
      go_wp2
      go_end0
      rw [List.take_of_length_le (by omega), List.drop_of_length_le (by omega), List.append_nil] at hown
      exact ⟨rfl, hown, hg⟩

set_option maxHeartbeats 1000000 in
set_option maxRecDepth 20000 in
theorem untouched_any (F A : Option Addr) (cf c : Nat) (l : List UInt8) (w : World) (hn : l.length ≤ 140737488351232) (hc : l.length + 150 ≤ cf) (hc2 : cf ≤ maxLen) (hf : Rd encB w F (l ++ marks 150)) (ha : Rd encB w A l) :
    Calls Tryd.prog 18 #[.slice F (l.length + 150) cf, .slice A l.length c] w fun e w' => e = .returned (.bool true) ∧ ∃ n, w' = w.drewN n := by
  unfold maxLen at hc2
  have h1 : ((l.length : Int) + 150 != (l.length : Int) + 150) = false := by simp
  have hr1 : Rd encB w F l := by
    have := hf.take l.length
    rwa [List.take_left] at this
  have hb1 : (l.length : Int) ≤ (cf : Int) := by omega
  have hse := same_any F A cf c l l
  have Hse := Lib.hid hse
  clear hse
  go_enter Tryd.func18, Tryd.ntmps18
  go_wp2_with fail
  refine (Hse.out _ (by simp only [maxLen]; omega) hr1 ha).mono ?_
  rintro e w' ⟨rfl, q, rfl⟩
  go_wp2
  go_loopw [5] (fun i wr => ∃ k : Nat, k ≤ 150 ∧ i = .int .i64 k ∧ ∃ n, wr = w.drewN n) (fun i _ => 150 - (intOf i).toNat)
  case atStart => exact ⟨0, by omega, rfl, q, rfl⟩
  case round =>
    obtain ⟨k, hk, rfl, n, rfl⟩ := hrel
    by_cases hlt : k < 150
    · have hx : (l ++ marks 150)[l.length + k]? = some (mark k) := by
        rw [List.getElem?_append_right (by omega), Nat.add_sub_cancel_left]
        simp [marks, hlt]
      obtain ⟨ad, rfl, hcell⟩ := hf _ _ hx
      have hmk := mark_is ⟨k, hlt⟩
      simp only at hmk
      have hne : (vB (mark k) != vB (mark k)) = false := bne_self_eq_false _
      have hi : (l.length : Int) + (k : Int) < (l.length : Int) + 150 := by omega
      clear hx
      go_wp2
      go_roundw
      case rel => exact ⟨k + 1, by omega, by go_num, n, rfl⟩
      case measure => simp [intOf]; omega
    · obtain rfl : k = 150 := by omega
      go_wp2
      go_ret
      exact ⟨rfl, n, rfl⟩
end Go.Proofs.YtepikbmlhejobaaDoor
