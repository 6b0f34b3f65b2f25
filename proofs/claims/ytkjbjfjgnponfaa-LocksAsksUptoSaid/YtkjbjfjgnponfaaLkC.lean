/- Package locks: the table in memory; goes, known, owners. -/
import Derived.Test.YtkjbjfjgnponfaaLkB
namespace Go.Proofs.Ytkjbjfjgnponfaa
open Go.RowKit
set_option linter.unusedSimpArgs false
def Sep (v v' : Value) : Prop := ∀ k, v.ownBlock = some k → v'.ownBlock ≠ some k
theorem Sep.symm {v v' : Value} (h : Sep v v') : Sep v' v := fun k e e' => h k e' e
def upd {α : Type} (f : Nat → α) (k : Nat) (x : α) : Nat → α := fun j => if j = k then x else f j
theorem upd_same {α : Type} (f : Nat → α) (k : Nat) (x : α) : upd f k x k = x := if_pos rfl
theorem upd_ne {α : Type} (f : Nat → α) {k j : Nat} (x : α) (h : j ≠ k) : upd f k x j = f j := if_neg h
theorem blk_type_ne {w : World} {g g' t t' : Nat} {cs cs' : Array Value} (h : Blk w g t cs) (h' : Blk w g' t' cs') (hne : t ≠ t') : g ≠ g' := by
  rintro rfl
  have e := h.symm.trans h'
  injection e with e
  injection e with _ e2 _
  exact hne e2
/-- a list of places, its own memory -/
def OwnP (w : World) (base : Nat) (v : Value) (l : List Pl) : Prop := ∃ A c, v = .slice A l.length c ∧ GSl encP 2 96 w A c l ∧ (A = none ∨ ∃ g, A = some ⟨g, 0, none⟩ ∧ base ≤ g)
theorem OwnP.blk {w : World} {base g : Nat} {v : Value} {l : List Pl} (h : OwnP w base v l) (hg : v.ownBlock = some g) : base ≤ g ∧ ∃ cs, Blk w g 96 cs := by
  obtain ⟨A, c, rfl, hG, hA⟩ := h
  rcases hA with rfl | ⟨g', rfl, hb⟩
  · cases hg
  · cases hg
    rcases hG with ⟨h, _⟩ | ⟨g2, o, cs, e, _, _, h3, _⟩
    · cases h
    · cases e
      exact ⟨hb, cs, h3⟩
theorem OwnP.lt {w : World} {base g : Nat} {v : Value} {l : List Pl} (h : OwnP w base v l) (hg : v.ownBlock = some g) : g < w.heap.size := by
  obtain ⟨_, cs, hb⟩ := h.blk hg
  exact hb.lt
theorem OwnP.nil_ (w : World) (base : Nat) : OwnP w base (.slice none 0 0) [] := ⟨none, 0, rfl, GSl.nil_, .inl rfl⟩
theorem OwnP.chg {w w' : World} {base : Nat} {v : Value} {l : List Pl} {F : Nat → Nat → Prop} (h : OwnP w base v l) (hc : Chg F w w') (hn : ∀ g, v.ownBlock = some g → ∀ i, ¬ F g i) : OwnP w' base v l := by
  obtain ⟨A, c, rfl, hG, hA⟩ := h
  refine ⟨A, c, rfl, hG.chg hc encP_len fun g i hs => ?_, hA⟩
  rcases hA with rfl | ⟨g', rfl, _⟩
  · obtain ⟨_, e, _⟩ := hs
    cases e
  · obtain ⟨_, e, _⟩ := hs
    cases e
    exact hn g rfl i
theorem OwnP.below {w w' : World} {base : Nat} {v : Value} {l : List Pl} (h : OwnP w base v l) (hB : Below w.heap.size w w') : OwnP w' base v l := h.chg (Chg.of_below (fun _ _ => False) hB) fun _ _ _ h => h
/-- does a mode go with those who hold? -/
def goesL (l : List Pl) (mode : Int) : Bool := match l with
  | [] => true
  | p :: _ => mode == 1 && p.2 == 1
theorem goes_any (E off : Nat) (A : Option Addr) (c n : Nat) (l : List Pl) (mode : Int) (w : World) (hl : l.length = n) (hn : n ≤ 9223372036854775807) (hc : w.cell? ⟨E, off, none⟩ = some (.slice A n c)) (h : RdS encP 2 w A l) :
    Calls Try.prog 55 #[.pointer (some ⟨E, off, none⟩), .int .i64 mode] w fun e w' => e = .returned (.bool (goesL l mode)) ∧ w = w' := by
  cases l with
  | nil =>
    obtain rfl : n = 0 := hl.symm
    go_enter Try.func55, Try.ntmps55
    go_wp2
    go_ret
    exact ⟨rfl, rfl⟩
  | cons p q =>
    obtain ⟨g, o, x, hA, hg, hx, hcell⟩ := h.at_ (show 0 < (p :: q).length by simp)
    cases hx
    subst hA
    obtain ⟨m, rfl⟩ : ∃ m, n = m + 1 := ⟨q.length, hl.symm⟩
    have x1 : w.cell? ⟨g, o + 1, none⟩ = some (.int .i64 p.2) := by simpa using hcell 1 _ rfl
    have hne0 : (((m + 1 : Nat) : Int) == 0) = false := by rw [beq_eq_false_iff_ne]; omega
    have hpos : (0 : Int) < ((m + 1 : Nat) : Int) := by omega
    clear hcell h hl
    have hgo : goesL (p :: q) mode = (mode == 1 && p.2 == 1) := rfl
    have HGO := Lib.hid hgo
    clear hgo
    generalize p.2 = pm at *
    cases hm : (mode == 1) with
    | false =>
      rw [hm] at HGO
      go_enter Try.func55, Try.ntmps55
      go_wp2
      go_ret
      exact ⟨by rw [HGO.out]; rfl, rfl⟩
    | true =>
      rw [hm] at HGO
      go_enter Try.func55, Try.ntmps55
      go_wp2
      go_ret
      exact ⟨by rw [HGO.out]; rfl, rfl⟩
theorem known_any (T E n : Nat) (x : Int) (w : World) (_hn : n ≤ 9223372036854775807) (hc : w.cell? ⟨T, 2, none⟩ = some (.slice (some ⟨E, 0, none⟩) n n)) :
    Calls Try.prog 52 #[.pointer (some ⟨T, 0, none⟩), .int .i64 x] w fun e w' => e = .returned (.bool (decide (0 ≤ x) && decide (x < (n : Int)))) ∧ w = w' := by
  by_cases h0 : 0 ≤ x
  · go_enter Try.func52, Try.ntmps52
    go_wp2
    all_goals (go_ret; exact ⟨by simp [*], rfl⟩)
  · go_enter Try.func52, Try.ntmps52
    go_wp2
    all_goals (go_ret; exact ⟨by rw [decide_eq_false (show ¬ 0 ≤ x by omega)]; rfl, rfl⟩)
theorem intTy : SlTy Try.prog 29 3 1 8 := SlTy.mk' (z := .int .i64 0) Try.underlying29 (by kernel_rfl) rfl
theorem encI_one (x : Int) : (encI x).oneCell' = true := rfl
set_option maxHeartbeats 2000000 in
theorem owners_any (A : Option Addr) (c n : Nat) (l : List Pl) (w : World) (hl : l.length = n) (hn : n ≤ 8000000000000) (h : RdS encP 2 w A l) :
    Calls Try.prog 53 #[.slice A n c] w fun e w' => ∃ v, e = .returned v ∧ Own encI 3 w' w.heap.size v (l.map (·.1)) ∧ Below w.heap.size w w' := by
  have HR := Lib.hid h
  have HL := Lib.hid hl
  clear h hl
  go_enter Try.func53, Try.ntmps53
  go_wp2_with fail
  go_loopw [3, 8] (fun t3 t8 wr => ∃ k : Nat, k ≤ n ∧ t8 = .int .i64 (k : Int) ∧ Own encI 3 wr w.heap.size t3 ((l.take k).map (·.1)) ∧ Below w.heap.size w wr) (fun _ t8 _ => n - (intOf t8).toNat)
  case atStart => exact ⟨0, Nat.zero_le _, rfl, Own.nil_ _ _ _ _, Below.refl _ _⟩
  case round =>
    obtain ⟨k, hk, rfl, ho, hB⟩ := hrel
    have hlen := Lib.hid (show ((l.take k).map (·.1)).length = k by rw [List.length_map, List.length_take, HL.out]; omega)
    by_cases hlk : k < n
    · have hlk' : (k : Int) < (n : Int) := by omega
      obtain ⟨g, off, x, hA, hg, hx, hc⟩ := HR.out.at_ (show k < l.length by rw [HL.out]; exact hlk)
      subst hA
      have x0 : wr.cell? ⟨g, off + k * 2, none⟩ = some (.int .i64 x.1) := (hB.cell (p := ⟨g, off + k * 2, none⟩) hg).trans (hc 0 _ rfl)
      have x1 : wr.cell? ⟨g, off + k * 2 + 1, none⟩ = some (.int .i64 x.2) := (hB.cell (p := ⟨g, off + k * 2 + 1, none⟩) hg).trans (hc 1 _ rfl)
      have HX := Lib.hid hx
      have HB := Lib.hid hB
      have HO := Lib.hid ho
      clear hc hx hB ho
      go_wp2_with (at_builtin; refine wpList_appendO _ intTy encI_one rfl (.tmp 12) (.tmp 15) rfl w.heap.size _ _ [x.1] rfl ((HO.out.alloc (.cells #[.int .i64 x.1, .int .i64 x.2] 96)).alloc (.cells #[.int .i64 x.1] 3)) (some ⟨wr.heap.size + 1, 0, none⟩) 1 rfl ?hr (by rw [hlen.out]; simp only [maxLen, List.length_singleton]; omega) (by rw [hlen.out]; simp only [List.length_singleton]; omega) (by have := HB.out.size; simp; omega) ?_; (case hr => (have := Rd.one encI (wr.alloc (.cells #[.int .i64 x.1, .int .i64 x.2] 96)) 3 x.1; rw [World.size_alloc] at this; exact this)); intro v1 w1 o1 hg1 hloc1)
      have B1 := below_own ((HB.out.alloc HB.out.size (.cells #[.int .i64 x.1, .int .i64 x.2] 96)).alloc (by have := HB.out.size; simp; omega) (.cells #[.int .i64 x.1] 3)) ((HO.out.alloc (.cells #[.int .i64 x.1, .int .i64 x.2] 96)).alloc (.cells #[.int .i64 x.1] 3)) (Nat.le_refl _) hg1 (by have := HB.out.size; simp; omega)
      have hsn : (l.take k).map (·.1) ++ [x.1] = (l.take (k + 1)).map (·.1) := by rw [List.take_add_one, HX.out, List.map_append]; rfl
      rw [hsn] at o1
      go_roundw
      case rel => exact ⟨k + 1, by omega, by go_num, o1, B1⟩
      case measure => simp [intOf]; omega
    · obtain rfl : k = n := by omega
      rw [List.take_of_length_le (by rw [HL.out]; exact Nat.le_refl _)] at ho
      go_wp2
      go_ret
      exact ⟨_, rfl, ho, hB⟩
/-- a table in memory: its struct (the mutex's word s), its extents' slices V, the lists L: 2x holders, 2x + 1 row -/
structure TabS (base : Nat) (wr : World) (T E n : Nat) (s most wait : Int) (V : Nat → Value) (L : Nat → List Pl) : Prop where
  tb : Blk wr T 83 #[.int .i32 s, .int .u32 0, .slice (some ⟨E, 0, none⟩) n n, .int .i64 most, .int .i64 wait]
  ex : Blk wr E 93 ((List.range (2 * n)).map V).toArray
  own : ∀ i, i < 2 * n → OwnP wr base (V i) (L i)
  sep : ∀ i j, i < 2 * n → j < 2 * n → i ≠ j → Sep (V i) (V j)
  hT : base ≤ T
  hE : base ≤ E
/-- the table's own blocks -/
def Fp (T E n : Nat) (V : Nat → Value) (k : Nat) : Prop := k = T ∨ k = E ∨ ∃ i, i < 2 * n ∧ (V i).ownBlock = some k
section
variable {base T E n : Nat} {wr wr' : World} {s most wait : Int} {V : Nat → Value} {L : Nat → List Pl}
theorem TabS.cell (h : TabS base wr T E n s most wait V L) {i : Nat} (hi : i < 2 * n) : wr.cell? ⟨E, i, none⟩ = some (V i) := (h.ex.cell _).trans (by simp [hi])
theorem TabS.keep {F : Nat → Nat → Prop} (h : TabS base wr T E n s most wait V L) (hc : Chg F wr wr') (hn : ∀ k, Fp T E n V k → ∀ i, ¬ F k i) : TabS base wr' T E n s most wait V L where
  tb := hc.blk h.tb (hn T (.inl rfl))
  ex := hc.blk h.ex (hn E (.inr (.inl rfl)))
  own i hi := (h.own i hi).chg hc fun g hg => hn g (.inr (.inr ⟨i, hi, hg⟩))
  sep := h.sep
  hT := h.hT
  hE := h.hE
theorem TabS.below (h : TabS base wr T E n s most wait V L) (hB : Below wr.heap.size wr wr') : TabS base wr' T E n s most wait V L := h.keep (Chg.of_below (fun _ _ => False) hB) fun _ _ _ h => h
theorem TabS.fpLt (h : TabS base wr T E n s most wait V L) {k : Nat} (hk : Fp T E n V k) : base ≤ k ∧ k < wr.heap.size := by
  rcases hk with rfl | rfl | ⟨i, hi, e⟩
  · exact ⟨h.hT, h.tb.lt⟩
  · exact ⟨h.hE, h.ex.lt⟩
  · exact ⟨((h.own i hi).blk e).1, (h.own i hi).lt e⟩
/-- a table whose own block of another type is written -/
theorem TabS.other {g t : Nat} {cs : Array Value} {F : Nat → Nat → Prop} (h : TabS base wr T E n s most wait V L) (hb : Blk wr g t cs) (h1 : t ≠ 83) (h2 : t ≠ 93) (h3 : t ≠ 96) (hc : Chg F wr wr') (hF : ∀ k i, F k i → k = g) : TabS base wr' T E n s most wait V L :=
  h.keep hc fun k hk i hf => by
    obtain rfl := hF k i hf
    rcases hk with rfl | rfl | ⟨j, hj, e⟩
    · exact blk_type_ne hb h.tb h1 rfl
    · exact blk_type_ne hb h.ex h2 rfl
    · obtain ⟨_, cs', hb'⟩ := (h.own j hj).blk e
      exact blk_type_ne hb hb' h3 rfl
theorem upd_row (V : Nat → Value) (n i : Nat) (v : Value) : (((List.range n).map V).toArray).setIfInBounds i v = ((List.range n).map (upd V i v)).toArray := by
  apply Array.ext'
  apply List.ext_getElem?
  intro j
  simp only [List.setIfInBounds_toArray, List.getElem?_set, List.getElem?_map]
  by_cases hj : j < n
  · by_cases e : i = j
    · subst e; simp [hj, upd]
    · rw [if_neg e]; simp [hj, upd]; intro e'; exact absurd e'.symm e
  · by_cases e : i = j
    · subst e; simp [hj]
    · rw [if_neg e]; simp [hj]
/-- a list of the table is changed in its own memory (or is new), and its slice is written -/
theorem TabS.put {F : Nat → Nat → Prop} (h : TabS base wr T E n s most wait V L) {i : Nat} {v : Value} {l : List Pl} (hi : i < 2 * n) (hc : Chg F wr wr') (hF : ∀ k j, F k j → (V i).ownBlock = some k) (ho : OwnP wr' base v l) (hv : ∀ k, v.ownBlock = some k → (V i).ownBlock = some k ∨ wr.heap.size ≤ k) : TabS base (wr'.setCell ⟨E, i, none⟩ v) T E n s most wait (upd V i v) (upd L i l) := by
  have hTF : ∀ j, ¬ F T j := fun j hf => by
    obtain ⟨_, cs, hb⟩ := (h.own i hi).blk (hF _ _ hf)
    exact blk_type_ne hb h.tb (by decide) rfl
  have hEF : ∀ j, ¬ F E j := fun j hf => by
    obtain ⟨_, cs, hb⟩ := (h.own i hi).blk (hF _ _ hf)
    exact blk_type_ne hb h.ex (by decide) rfl
  have tb' := hc.blk h.tb hTF
  have ex' := hc.blk h.ex hEF
  have hTE : T ≠ E := blk_type_ne h.tb h.ex (by decide)
  have hset : Chg (fun k _ => k = E) wr' (wr'.setCell ⟨E, i, none⟩ v) := Chg.setCell (fun k _ => k = E) _ (show E = E from rfl) v
  refine ⟨tb'.far hTE _, ?_, fun j hj => ?_, fun a b ha hb hab => ?_, h.hT, h.hE⟩
  · have h2 := ex'.set_ i v
    rw [upd_row] at h2
    exact h2
  · by_cases e : j = i
    · subst e
      rw [upd_same, upd_same]
      exact ho.chg hset fun g hg _ e => by
        obtain ⟨_, cs, hb⟩ := ho.blk hg
        exact blk_type_ne hb ex' (by decide) e
    · rw [upd_ne _ _ e, upd_ne _ _ e]
      have h1 := (h.own j hj).chg hc fun g hg k hf => h.sep j i hj hi e g hg (hF _ _ hf)
      exact h1.chg hset fun g hg _ e => by
        obtain ⟨_, cs, hb⟩ := h1.blk hg
        exact blk_type_ne hb ex' (by decide) e
  · have key : ∀ b, b < 2 * n → b ≠ i → Sep v (V b) := fun b hb hbi k e e' => by
      rcases hv k e with h1 | h1
      · exact h.sep i b hi hb (fun e => hbi e.symm) k h1 e'
      · have := (h.own b hb).lt e'
        omega
    by_cases e : a = i
    · subst e
      rw [upd_same, upd_ne _ _ (fun e => hab e.symm)]
      exact key b hb (fun e => hab e.symm)
    · rw [upd_ne _ _ e]
      by_cases e2 : b = i
      · subst e2
        rw [upd_same]
        exact (key a ha e).symm
      · rw [upd_ne _ _ e2]
        exact h.sep a b ha hb hab
theorem TabS.waits (h : TabS base wr T E n s most wait V L) (z : Int) : TabS base (wr.setCell ⟨T, 4, none⟩ (.int .i64 z)) T E n s most z V L := by
  have hset : Chg (fun k _ => k = T) wr (wr.setCell ⟨T, 4, none⟩ (.int .i64 z)) := Chg.setCell (fun k _ => k = T) _ (show T = T from rfl) _
  refine ⟨h.tb.set_ 4 _, h.ex.far (fun e => blk_type_ne h.tb h.ex (by decide) e.symm) _, fun i hi => (h.own i hi).chg hset fun g hg _ e => ?_, h.sep, h.hT, h.hE⟩
  obtain ⟨_, cs, hb⟩ := (h.own i hi).blk hg
  exact blk_type_ne hb h.tb (by decide) e
theorem TabS.word (h : TabS base wr T E n s most wait V L) (z : Int) : TabS base (wr.setCell ⟨T, 0, none⟩ (.int .i32 z)) T E n z most wait V L := by
  have hset : Chg (fun k _ => k = T) wr (wr.setCell ⟨T, 0, none⟩ (.int .i32 z)) := Chg.setCell (fun k _ => k = T) _ (show T = T from rfl) _
  refine ⟨h.tb.set_ 0 _, h.ex.far (fun e => blk_type_ne h.tb h.ex (by decide) e.symm) _, fun i hi => (h.own i hi).chg hset fun g hg _ e => ?_, h.sep, h.hT, h.hE⟩
  obtain ⟨_, cs, hb⟩ := (h.own i hi).blk hg
  exact blk_type_ne hb h.tb (by decide) e
end
end Go.Proofs.Ytkjbjfjgnponfaa
