/- Three Hashes and what each was given: the state that DigestStream walks. -/
import Derived.Test.YtepikbmlhejobaaDoorRefMac
import Derived.Test.YtepikbmlhejobaaDoorDigSum
namespace Go.Proofs.YtepikbmlhejobaaDoor
open Go.RowKit
set_option linter.unusedSimpArgs false
structure Stp where
  kind : Int
  of_ : Int
  A : Option Addr
  n : Nat
  c : Nat
  p : List UInt8
def encS (s : Stp) : List Value := [.int .i64 s.kind, .int .i64 s.of_, .slice s.A s.n s.c]
def sumB : List Stp → Nat
  | [] => 0
  | s :: l => s.n + sumB l
theorem sumB_drop {l : List Stp} {i : Nat} {s : Stp} (h : l[i]? = some s) : sumB (l.drop i) = s.n + sumB (l.drop (i + 1)) := by
  obtain ⟨hi, he⟩ := List.getElem?_eq_some_iff.1 h
  rw [List.drop_eq_getElem_cons hi, he]
  rfl
def upd {α : Type} (f : Nat → α) (k : Nat) (x : α) : Nat → α := fun j => if j = k then x else f j
theorem upd_same {α : Type} (f : Nat → α) (k : Nat) (x : α) : upd f k x k = x := if_pos rfl
theorem upd_ne {α : Type} (f : Nat → α) {k j : Nat} (x : α) (h : j ≠ k) : upd f k x j = f j := if_neg h
theorem upd_self {α : Type} (f : Nat → α) (k : Nat) : upd f k (f k) = f := by
  funext j
  unfold upd
  split
  · next e => rw [e]
  · rfl
theorem three_set {α : Type} (f : Nat → α) (k : Nat) (x : α) (hk : k < 3) : (#[f 0, f 1, f 2] : Array α).setIfInBounds k x = #[upd f k x 0, upd f k x 1, upd f k x 2] := by
  rcases (show k = 0 ∨ k = 1 ∨ k = 2 by omega) with h | h | h <;> subst h <;> rfl
theorem three_get {α : Type} (f : Nat → α) (k : Nat) (hk : k < 3) : (#[f 0, f 1, f 2] : Array α)[k]? = some (f k) := by
  rcases (show k = 0 ∨ k = 1 ∨ k = 2 by omega) with h | h | h <;> subst h <;> rfl
theorem blk_type_ne {w : World} {g g' t t' : Nat} {cs cs' : Array Value} (h : Blk w g t cs) (h' : Blk w g' t' cs') (hne : t ≠ t') : g ≠ g' := by
  rintro rfl
  have e := h.symm.trans h'
  injection e with e
  injection e with _ e2 _
  exact hne e2
theorem HashS.blk {w : World} {H : Nat} {ks : List UInt32} {s0 : S8} {l : List UInt8} {cnt : Nat} (h : HashS w H ks s0 l cnt) : ∃ cs, Blk w H 62 cs := by
  obtain ⟨part, _, hb, _⟩ := h
  exact ⟨_, hb⟩
theorem HashS.keep {w w' : World} {H : Nat} {ks : List UInt32} {s0 : S8} {l : List UInt8} {cnt : Nat} (h : HashS w H ks s0 l cnt) (hk : ∀ t cs, Blk w H t cs → Blk w' H t cs) : HashS w' H ks s0 l cnt := by
  obtain ⟨part, hpl, hb, hr⟩ := h
  exact ⟨part, hpl, hk _ _ hb, hr⟩
abbrev ptrOf (g : Nat) : Value := .pointer (some ⟨g, 0, none⟩)
structure StrS (w wr : World) (Hh Al : Nat) (hb : Nat → Nat) (G F : Nat → List UInt8) (V : Nat → Value) : Prop where
  hs : ∀ k, k < 3 → HashS wr (hb k) ksL startS (G k) (G k).length
  own : ∀ k, k < 3 → Own encB 5 wr w.heap.size (V k) (F k)
  sep : ∀ k j, k < 3 → j < 3 → k ≠ j → Sep (V k) (V j)
  al : Blk wr Al 27 #[V 0, V 1, V 2]
  hh : Blk wr Hh 23 #[ptrOf (hb 0), ptrOf (hb 1), ptrOf (hb 2)]
  bel : Below w.heap.size w wr
section
variable {w wr wr' : World} {Hh Al : Nat} {hb : Nat → Nat} {G F : Nat → List UInt8} {V : Nat → Value}
theorem StrS.below (h : StrS w wr Hh Al hb G F V) (hB : Below wr.heap.size wr wr') : StrS w wr' Hh Al hb G F V where
  hs k hk := (h.hs k hk).below hB (h.hs k hk).lt
  own k hk := (h.own k hk).below hB
  sep := h.sep
  al := h.al.below hB h.al.lt
  hh := h.hh.below hB h.hh.lt
  bel := h.bel.trans (hB.mono h.bel.size)
theorem StrS.cellh (h : StrS w wr Hh Al hb G F V) {k : Nat} (hk : k < 3) : wr.cell? ⟨Hh, k, none⟩ = some (ptrOf (hb k)) := (h.hh.cell _).trans (three_get (fun k => ptrOf (hb k)) k hk)
theorem StrS.cella (h : StrS w wr Hh Al hb G F V) {k : Nat} (hk : k < 3) : wr.cell? ⟨Al, k, none⟩ = some (V k) := (h.al.cell _).trans (three_get V k hk)
theorem StrS.wrote (h : StrS w wr Hh Al hb G F V) {k : Nat} {g : List UInt8} (hk : k < 3) (hne : ∀ j, j < 3 → j ≠ k → hb j ≠ hb k) (hS : HashS wr' (hb k) ksL startS g g.length) (hC : Chg (fun q _ => q = hb k) wr wr') (hw : w.heap.size ≤ hb k) : StrS w wr' Hh Al hb (upd G k g) F V where
  hs j hj := by
    by_cases e : j = k
    · subst e; rw [upd_same]; exact hS
    · rw [upd_ne _ _ e]
      exact (h.hs j hj).keep fun t cs b => hC.blk b fun _ e2 => hne j hj e e2
  own j hj := by
    obtain ⟨cs, hk2⟩ := (h.hs k hk).blk
    have h1 := (h.own j hj).blk_ne hk2 (by decide)
    exact (h.own j hj).keep fun q e hl => hC.far q hl fun _ e2 => h1 (by rw [e, e2])
  sep := h.sep
  al := by
    obtain ⟨cs, hk2⟩ := (h.hs k hk).blk
    exact hC.blk h.al fun _ e => blk_type_ne h.al hk2 (by decide) e
  hh := by
    obtain ⟨cs, hk2⟩ := (h.hs k hk).blk
    exact hC.blk h.hh fun _ e => blk_type_ne h.hh hk2 (by decide) e
  bel := h.bel.trans (hC.below h.bel.size fun q _ hq e => by omega)
theorem StrS.grown {g n c base : Nat} {l : List UInt8} (h : StrS w wr Hh Al hb G F V) (ho : Own encB 5 wr base (.slice (some ⟨g, 0, none⟩) n c) l) (hg : wr.grownBy wr' (some g)) (h1 : ∀ j, j < 3 → (V j).ownBlock ≠ some g) (hw : w.heap.size ≤ g) : StrS w wr' Hh Al hb G F V where
  hs j hj := by
    obtain ⟨cs, hj2⟩ := (h.hs j hj).blk
    have e1 := ho.blk_ne hj2 (by decide)
    exact (h.hs j hj).keep fun t cs b => b.grown hg fun e => e1 e.symm
  own j hj := (h.own j hj).grown hg (.inr (h1 j hj))
  sep := h.sep
  al := h.al.grown hg fun e => ho.blk_ne h.al (by decide) e.symm
  hh := h.hh.grown hg fun e => ho.blk_ne h.hh (by decide) e.symm
  bel := below_only h.bel hg h.bel.size hw
theorem StrS.put (h : StrS w wr Hh Al hb G F V) {k : Nat} {f : List UInt8} {v : Value} (hk : k < 3) (ho : Own encB 5 wr' w.heap.size v f) (hg : wr.grownBy wr' (V k).ownBlock) (hsep : ∀ j, j < 3 → j ≠ k → Sep v (V j)) (hw : w.heap.size ≤ Al) : StrS w (wr'.setCell ⟨Al, k, none⟩ v) Hh Al hb G (upd F k f) (upd V k v) := by
  have hal : Blk wr' Al 27 #[V 0, V 1, V 2] := h.al.grown hg (fun e => (h.own k hk).blk_ne h.al (by decide) e.symm)
  have hhh : Blk wr' Hh 23 #[ptrOf (hb 0), ptrOf (hb 1), ptrOf (hb 2)] := h.hh.grown hg (fun e => (h.own k hk).blk_ne h.hh (by decide) e.symm)
  refine ⟨fun j hj => ?_, fun j hj => ?_, fun i j hi hj hij => ?_, ?_, ?_, ?_⟩
  · obtain ⟨cs, hj2⟩ := (h.hs j hj).blk
    have e1 := (h.own k hk).blk_ne hj2 (by decide)
    have e2 : hb j ≠ Al := blk_type_ne hj2 h.al (by decide)
    exact (h.hs j hj).keep fun t cs b => (b.grown hg fun e => e1 e.symm).far e2 _
  · by_cases e : j = k
    · subst e
      rw [upd_same, upd_same]
      exact ho.far (ho.blk_ne hal (by decide)) _
    · rw [upd_ne _ _ e, upd_ne _ _ e]
      have h1 := (h.own j hj).grown hg (h.sep j k hj hk e).ne
      exact h1.far (h1.blk_ne hal (by decide)) _
  · by_cases e : i = k
    · subst e
      rw [upd_same, upd_ne _ _ (fun e => hij e.symm)]
      exact hsep j hj (fun e => hij e.symm)
    · rw [upd_ne _ _ e]
      by_cases e2 : j = k
      · subst e2
        rw [upd_same]
        exact (hsep i hi e).symm
      · rw [upd_ne _ _ e2]
        exact h.sep i j hi hj hij
  · have h2 := hal.set_ k v
    rw [three_set V k v hk] at h2
    exact h2
  · exact hhh.far (fun e => blk_type_ne hhh hal (by decide) e) _
  · exact (below_own h.bel (h.own k hk) (Nat.le_refl _) hg h.bel.size).setCell hw _
end
theorem write_n (ks : List UInt32) (hk : ks.length = 64) (s0 : S8) (H : Nat) (l p : List UInt8) (cnt n : Nat) (A : Option Addr) (c : Nat) (w : World) (hn : p.length = n) (hH : HashS w H ks s0 l cnt) (hp : Rd encB w A p) (hA : p ≠ [] → ∀ ad, A = some ad → ad.block ≠ H) (hc : n ≤ c) (hcm : c ≤ 9223372036854775807) (hcnt : cnt + n < 18446744073709551616)
    (hT : Rd enc32 w (some ⟨3, 0, none⟩) ks) (hH3 : H ≠ 3) :
    Calls Tryd.prog 16 #[.pointer (some ⟨H, 0, none⟩), .slice A n c] w fun e w' => e = .returned (.tuple #[]) ∧ HashS w' H ks s0 (l ++ p) (cnt + n) ∧ Chg (fun k _ => k = H) w w' := by
  subst hn; exact write_any ks hk s0 H l p cnt A c w hH hp hA hc hcm hcnt hT hH3
theorem roomy_n (A : Option Addr) (c n : Nat) (l : List UInt8) (w : World) (hl : l.length = n) (hn : n ≤ 140737488351232) (h : Rd encB w A l) :
    Calls Tryd.prog 15 #[.slice A n c] w fun e w' => ∃ v, e = .returned v ∧ Own encB 5 w' w.heap.size v (l ++ marks 150) ∧ Below w.heap.size w w' := by
  subst hl; exact roomy_any A c l w hn h
theorem untouched_n (F A : Option Addr) (cf c n : Nat) (l : List UInt8) (w : World) (hl : l.length = n) (hn : n ≤ 140737488351232) (hc : n + 150 ≤ cf) (hc2 : cf ≤ maxLen) (hf : Rd encB w F (l ++ marks 150)) (ha : Rd encB w A l) :
    Calls Tryd.prog 18 #[.slice F (n + 150) cf, .slice A n c] w fun e w' => e = .returned (.bool true) ∧ ∃ n, w' = w.drewN n := by
  subst hl; exact untouched_any F A cf c l w hn hc hc2 hf ha
theorem which_any (kind of_ : Int) (k : Nat) (v : Value) (w : World) (hk : of_ % 3 = (k : Int)) :
    Calls Tryd.prog 14 #[.agg #[.int .i64 kind, .int .i64 of_, v]] w fun e w' => e = .returned (.int .i64 (k : Int)) ∧ Below w.heap.size w w' := by
  have B0 := (Below.refl w.heap.size w).alloc (Nat.le_refl _) (.cells #[.int .i64 kind, .int .i64 of_, v] 29)
  go_enter Tryd.func14, Tryd.ntmps14
  go_wp2
  go_ret
  refine ⟨?_, B0⟩
  have h1 : of_.tmod 3 = of_ % 3 ∨ of_.tmod 3 = of_ % 3 - 3 := by
    rw [Int.tmod_eq_emod]
    split
    · left; omega
    · right; rfl
  have h2 : (wrap64 (of_.tmod 3 + 3)).tmod 3 = (k : Int) := by
    generalize of_.tmod 3 = r at h1
    unfold wrap64
    rw [Int.tmod_eq_emod_of_nonneg (by omega)]
    omega
  show Ending.returned (Value.int .i64 ((wrap64 (of_.tmod 3 + 3)).tmod 3)) = _
  rw [h2]
end Go.Proofs.YtepikbmlhejobaaDoor
