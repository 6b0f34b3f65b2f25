/- join: one list behind the other, new memory. -/
import Derived.Test.YtepikbmlhejobaaDoorLaw01a
namespace Go.Proofs.YtepikbmlhejobaaDoor
open Go.RowKit
set_option maxHeartbeats 1000000 in
theorem join_n (A B : Option Addr) (c d n m : Nat) (l k : List UInt8) (w : World) (hl : l.length = n) (hk : k.length = m) (hn : n + m ≤ 140737488355328) (h : Rd encB w A l) (h' : Rd encB w B k) :
    Calls Tryd.prog 31 #[.slice A n c, .slice B m d] w fun e w' => ∃ v, e = .returned v ∧ Own encB 5 w' w.heap.size v (l ++ k) ∧ Below w.heap.size w w' := by
  subst hl
  subst hk
  have H2 := Lib.hid h'
  clear h'
  go_enter Tryd.func31, Tryd.ntmps31
  go_wp2_with (first
    | (at_builtin; refine wpList_appendO _ bTy encB_one rfl (.tmp 6) (.tmp 7) rfl w.heap.size _ [] l rfl (Own.made encB 5 w (Nat.le_refl _)) A c rfl (h.alloc _) (by simp [maxLen]; omega) (by simp; omega) (by simp) ?_; intro v1 w1 hown hg hloc; have hb1 := Lib.hid (below_own ((Below.refl _ w).alloc (Nat.le_refl _) _) (Own.made encB 5 w (Nat.le_refl _)) (Nat.le_refl _) hg (by simp)); rw [List.nil_append] at hown; clear hg hloc)
    | (at_builtin; refine wpList_appendO _ bTy encB_one rfl (.tmp 9) (.tmp 10) rfl w.heap.size _ l k rfl hown B d rfl (H2.out.below hb1.out) (by simp [maxLen]; omega) (by simp; omega) hb1.out.size ?_; intro v2 w2 hown2 hg2 hloc2))
  go_ret
  exact ⟨v2, rfl, hown2, below_own hb1.out hown (Nat.le_refl _) hg2 hb1.out.size⟩
end Go.Proofs.YtepikbmlhejobaaDoor
