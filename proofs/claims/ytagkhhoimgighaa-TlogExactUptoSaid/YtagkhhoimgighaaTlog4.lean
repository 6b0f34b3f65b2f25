/- The transfer log: New, leave, Barrier, Fail, by contract. -/
import Derived.Test.YtagkhhoimgighaaTlog3
namespace Go.Proofs.Ytagkhhoimgighaa
open Go.RowKit

section
variable {w w' : World} {G : Nat} {s : LogS} {F F' : Nat → Nat → Prop} {A : Option Addr} {c b n : Nat}
def goodB (limit width : Int) : Prop := 1 ≤ limit ∧ limit ≤ 1024 ∧ 1 ≤ width ∧ width ≤ 64
def newS (limit width : Int) : LogS := ⟨limit, width, 1, 0, 0, []⟩
set_option maxRecDepth 20000 in
set_option maxHeartbeats 1000000 in
theorem new_yes (limit width : Int) (w : World) (h : goodB limit width) : Calls Try.prog 31 #[.int .i64 limit, .int .i64 width] w fun e w' =>
    ∃ G F, e = .returned (.tuple #[.pointer (some ⟨G, 0, none⟩), .int .i64 0]) ∧ LogAt w' G (newS limit width) F ∧ Below w.heap.size w w' ∧ (∀ k i, F k i → w.heap.size ≤ k) := by
  obtain ⟨h1, h2, h3, h4⟩ := h
  have hmm := @run_makeMap Try.prog
  have kk : Below w.heap.size w ((w.alloc (.map #[] 0)).alloc (.cells #[.int .i64 limit, .int .i64 width, .int .i64 1, .int .i64 0, .int .u64 0, .slice none 0 0, .map (some w.heap.size)] 71)) := ((Below.refl _ w).alloc (Nat.le_refl _) _).alloc (by simp) _
  have hb : Blk ((w.alloc (.map #[] 0)).alloc (.cells #[.int .i64 limit, .int .i64 width, .int .i64 1, .int .i64 0, .int .u64 0, .slice none 0 0, .map (some w.heap.size)] 71)) (w.heap.size + 1) 71 (logC (newS limit width) none 0 w.heap.size) := by
    have := Blk.new (w.alloc (.map #[] 0)) 71 (logC (newS limit width) none 0 w.heap.size)
    rwa [World.size_alloc] at this
  have hm : PMap Try.prog 3 ((w.alloc (.map #[] 0)).alloc (.cells #[.int .i64 limit, .int .i64 width, .int .i64 1, .int .i64 0, .int .u64 0, .slice none 0 0, .map (some w.heap.size)] 71)) w.heap.size 0 (findW []) := (PMap.made w Try.prog 3).chg (Chg.alloc (fun _ _ => False) _ _) (fun _ h => h)
  go_enter Try.func31, Try.ntmps31
  go_wp2
  go_ret2
  refine ⟨w.heap.size + 1, logFp (w.heap.size + 1) none 0 w.heap.size [], rfl, ⟨none, 0, w.heap.size, 0, ⟨hb, GSl.nil_, hm, fun x h => (by cases h), List.Pairwise.nil, fun x h => (by cases h), Nat.le_refl _⟩, fun _ _ => Iff.rfl⟩, kk, fun k i h => ?_⟩
  rcases h with rfl | rfl | ⟨o, ho, _⟩ | ⟨x, hx, _⟩
  · omega
  · omega
  · cases ho
  · cases hx
set_option maxRecDepth 20000 in
set_option maxHeartbeats 1000000 in
theorem new_no (limit width : Int) (w : World) (h : ¬ goodB limit width) : Calls Try.prog 31 #[.int .i64 limit, .int .i64 width] w fun e w' => e = .returned (.tuple #[.pointer none, .int .i64 1]) ∧ w = w' := by
  have h2 : limit < 1 ∨ (1 ≤ limit ∧ 1024 < limit) ∨ (1 ≤ limit ∧ limit ≤ 1024 ∧ width < 1) ∨ (1 ≤ limit ∧ limit ≤ 1024 ∧ 1 ≤ width ∧ 64 < width) := by unfold goodB at h; omega
  clear h
  rcases h2 with h1 | ⟨h1, h2⟩ | ⟨h1, h2, h3⟩ | ⟨h1, h2, h3, h4⟩
  all_goals
    go_enter Try.func31, Try.ntmps31
    go_wp2
    go_ret2
    exact ⟨rfl, rfl⟩

/-- the map when the first k writes have been struck -/
def struck (l : List Wr) (k : Nat) : Int → Option Nat := fun id => if (l.take k).any (fun y => y.id == id) then none else findW l id
theorem struck_zero (l : List Wr) : struck l 0 = findW l := by funext id; simp [struck]
theorem struck_succ {l : List Wr} {k : Nat} {x : Wr} (h : l[k]? = some x) : setP (struck l k) x.id none = struck l (k + 1) := by
  funext id
  unfold setP struck
  rw [List.take_add_one, h, Option.toList_some, List.any_append]
  by_cases e : id = x.id
  · subst e; simp
  · rw [if_neg e]
    have : [x].any (fun y => y.id == id) = false := by simp; exact fun h => e h.symm
    rw [this, Bool.or_false]
theorem struck_all {l : List Wr} (hd : l.Pairwise fun x y => x.id ≠ y.id) (k : Nat) : struck l k = findW (l.drop k) := by
  funext id
  unfold struck findW
  have hs : l.find? (fun x => x.id == id) = ((l.take k).find? (fun x => x.id == id)).or ((l.drop k).find? (fun x => x.id == id)) := by
    rw [← List.find?_append, List.take_append_drop]
  by_cases h : (l.take k).any (fun y => y.id == id) = true
  · rw [if_pos h]
    obtain ⟨y, hy, e⟩ := List.any_eq_true.1 h
    have hn : (l.drop k).find? (fun x => x.id == id) = none := List.find?_eq_none.2 fun z hz => by
      rw [← List.take_append_drop k l] at hd
      have := (List.pairwise_append.1 hd).2.2 y hy z hz
      simp at e ⊢
      rw [← e]
      exact fun h => this h.symm
    rw [hn]; rfl
  · rw [if_neg h, hs]
    have hn : (l.take k).find? (fun x => x.id == id) = none := List.find?_eq_none.2 fun z hz hh => h (List.any_eq_true.2 ⟨z, hz, hh⟩)
    rw [hn]; rfl
end
end Go.Proofs.Ytagkhhoimgighaa
