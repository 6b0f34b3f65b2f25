/- Package replicalaw10: the Book of lists that were handed out, in memory. No walk. -/
import Derived.Test.YtagkhhoimgighaaLawT2
namespace Go.Proofs.Ytagkhhoimgighaa
open Go.RowKit
set_option linter.unusedVariables false
set_option linter.unusedSimpArgs false

theorem blk_type_ne {w : World} {g h t u : Nat} {a b : Array Value} (ha : Blk w g t a) (hb : Blk w h u b) (hn : t ≠ u) : g ≠ h := ha.ne_ hb hn
def blkOf (A : Option Addr) (k : Nat) : Prop := ∃ a, A = some a ∧ a.block = k
theorem slFp_blk {sz a b : Nat} {A : Option Addr} {k i : Nat} (h : slFp sz A a b k i) : blkOf A k := by obtain ⟨o, e, _⟩ := h; exact ⟨_, e, rfl⟩
/-- a list that was handed out, as it stands in the Book: address, length, room, and what it reads as -/
structure PV where
  A : Option Addr
  n : Nat
  c : Nat
  l : List Ent3
def encP (p : PV) : List Value := [.slice p.A p.n p.c]
theorem encP_len (s : PV) : (encP s).length = 1 := rfl
theorem encP_one (s : PV) : ∀ v ∈ encP s, v.oneCell' = true := fun v hv => by obtain rfl := List.mem_singleton.1 hv; rfl
def okP (w : World) (p : PV) : Prop := GSl encE 3 36 w p.A p.c p.l ∧ p.l.length = p.n
def cellsP (p : PV) : Nat → Nat → Prop := slFp 3 p.A 0 p.n
def apart (p q : PV) : Prop := ∀ k i, cellsP p k i → ¬ cellsP q k i
theorem apart.symm {p q : PV} (h : apart p q) : apart q p := fun k i h1 h2 => h k i h2 h1
/-- one of the Book's four lists of lists -/
structure RV where
  A : Option Addr
  c : Nat
  P : List PV
def RV.val (v : RV) : Value := .slice v.A v.P.length v.c
def RV.nil_ : RV := ⟨none, 0, []⟩
def upd (V : Fin 4 → RV) (i : Fin 4) (v : RV) : Fin 4 → RV := fun j => if j = i then v else V j
theorem upd_self (V : Fin 4 → RV) (i : Fin 4) (v : RV) : upd V i v i = v := if_pos rfl
theorem upd_ne (V : Fin 4 → RV) {i j : Fin 4} (v : RV) (h : j ≠ i) : upd V i v j = V j := if_neg h
def bkC (V : Fin 4 → RV) (mk : Int) : Array Value := #[(V 0).val, (V 1).val, (V 2).val, (V 3).val, .int .i64 mk]
theorem bkC_upd (V : Fin 4 → RV) (mk : Int) (i : Fin 4) (v : RV) : (bkC V mk).setIfInBounds i.val v.val = bkC (upd V i v) mk := by
  match i with
  | 0 => rfl
  | 1 => rfl
  | 2 => rfl
  | 3 => rfl
theorem bkC_at (V : Fin 4 → RV) (mk : Int) (i : Fin 4) : (bkC V mk)[i.val]? = some (V i).val := by
  match i with
  | 0 => rfl
  | 1 => rfl
  | 2 => rfl
  | 3 => rfl
/-- the Book in memory -/
structure BkR (w : World) (B : Nat) (mk : Int) (V : Fin 4 → RV) : Prop where
  blk : Blk w B 54 (bkC V mk)
  row : ∀ i, GSl encP 1 27 w (V i).A (V i).c (V i).P
  loc : ∀ i, (V i).A = none ∨ ∃ g, (V i).A = some ⟨g, 0, none⟩
  sep : ∀ i j, i ≠ j → ∀ k, blkOf (V i).A k → ¬ blkOf (V j).A k
  ok : ∀ i, ∀ p ∈ (V i).P, okP w p
  full : ∀ p ∈ (V 0).P, p.c = p.n
  frs : ∀ p ∈ (V 0).P, ∀ j, j ≠ 0 → ∀ q ∈ (V j).P, apart p q
  frp : (V 0).P.Pairwise apart
/-- the Book's cells: its own, and those of every list in it -/
def BkF (V : Fin 4 → RV) (B : Nat) (k i : Nat) : Prop := k = B ∨ (∃ j, blkOf (V j).A k) ∨ ∃ j, ∃ p ∈ (V j).P, cellsP p k i
theorem row_blk {wr : World} {A : Option Addr} {c : Nat} {l : List PV} {k : Nat} (h : GSl encP 1 27 wr A c l) (hk : blkOf A k) : ∃ cs, Blk wr k 27 cs := by
  obtain ⟨a, e, rfl⟩ := hk
  rcases h with ⟨h2, _⟩ | ⟨g2, o2, cs2, h2, _, _, h3, _⟩
  · rw [h2] at e; cases e
  · rw [h2] at e; cases e; exact ⟨cs2, h3⟩
theorem okP.blk {w : World} {p : PV} (h : okP w p) {k : Nat} (hk : blkOf p.A k) : ∃ cs, Blk w k 36 cs := by
  obtain ⟨a, e, rfl⟩ := hk
  rcases h.1 with ⟨h2, _⟩ | ⟨g2, o2, cs2, h2, _, _, h3, _⟩
  · rw [h2] at e; cases e
  · rw [h2] at e; cases e; exact ⟨cs2, h3⟩
theorem okP.chg {F : Nat → Nat → Prop} {w w' : World} {p : PV} (h : okP w p) (hc : Chg F w w') (hn : ∀ k i, cellsP p k i → ¬ F k i) : okP w' p :=
  ⟨h.1.chg hc encE_len fun g i hs => hn g i (by rw [h.2] at hs; exact hs), h.2⟩
theorem okP.cells {w : World} {p : PV} (h : okP w p) {k i : Nat} (hk : cellsP p k i) : ∃ cs, Blk w k 36 cs := h.blk (slFp_blk hk)
section
variable {w w' w8 : World} {B : Nat} {mk : Int} {V : Fin 4 → RV}
theorem BkR.cell (h : BkR w B mk V) (i : Fin 4) : w.cell? ⟨B, i.val, none⟩ = some (.slice (V i).A (V i).P.length (V i).c) := (h.blk.cell i.val).trans (bkC_at V mk i)
theorem BkR.fp_lt (h : BkR w B mk V) {k i : Nat} (hk : BkF V B k i) : k < w.heap.size := by
  rcases hk with rfl | ⟨j, hj⟩ | ⟨j, p, hp, hc⟩
  · exact h.blk.lt
  · obtain ⟨cs, hb⟩ := row_blk (h.row j) hj; exact hb.lt
  · obtain ⟨cs, hb⟩ := (h.ok j p hp).cells hc; exact hb.lt
theorem BkR.chg {F : Nat → Nat → Prop} (h : BkR w B mk V) (hc : Chg F w w') (hn : ∀ k i, BkF V B k i → ¬ F k i) : BkR w' B mk V :=
  ⟨hc.blk h.blk fun i => hn B i (.inl rfl), fun i => (h.row i).chg hc encP_len fun g j hs => hn g j (.inr (.inl ⟨i, slFp_blk hs⟩)), h.loc, h.sep,
   fun i p hp => (h.ok i p hp).chg hc fun k j hk => hn k j (.inr (.inr ⟨i, p, hp, hk⟩)), h.full, h.frs, h.frp⟩
theorem BkR.below (h : BkR w B mk V) (hB : Below w.heap.size w w') : BkR w' B mk V := h.chg (Chg.of_below (fun _ _ => False) hB) fun _ _ _ h => h
theorem BkR.setMark (h : BkR w B mk V) (m : Int) : BkR (w.setCell ⟨B, 4, none⟩ (.int .i64 m)) B m V := by
  have hc := Chg.setCell (fun k _ => k = B) w (g := B) (i := 4) rfl (.int .i64 m)
  refine ⟨h.blk.set_ 4 _, fun i => (h.row i).chg hc encP_len fun g j hs e => ?_, h.loc, h.sep, fun i p hp => (h.ok i p hp).chg hc fun k j hk e => ?_, h.full, h.frs, h.frp⟩
  · obtain ⟨cs, hb⟩ := row_blk (h.row i) (slFp_blk hs)
    exact blk_type_ne hb h.blk (by decide) e
  · obtain ⟨cs, hb⟩ := (h.ok i p hp).cells hk
    exact blk_type_ne hb h.blk (by decide) e
/-- one of the four lists is written anew -/
theorem BkR.setRow (h : BkR w B mk V) (i : Fin 4) (v : RV) (hrow : GSl encP 1 27 w v.A v.c v.P) (hloc : v.A = none ∨ ∃ g, v.A = some ⟨g, 0, none⟩) (hsep : ∀ j, j ≠ i → ∀ k, blkOf v.A k → ¬ blkOf (V j).A k) (hok : ∀ p ∈ v.P, okP w p)
    (hfull : i = 0 → ∀ p ∈ v.P, p.c = p.n) (hap : i = 0 → ∀ p ∈ v.P, ∀ j, j ≠ 0 → ∀ q ∈ (V j).P, apart p q) (hap2 : i ≠ 0 → ∀ p ∈ v.P, ∀ q ∈ (V 0).P, apart q p) (hpw : i = 0 → v.P.Pairwise apart) :
    BkR (w.setCell ⟨B, i.val, none⟩ v.val) B mk (upd V i v) := by
  have hc := Chg.setCell (fun k _ => k = B) w (g := B) (i := i.val) rfl v.val
  have rows : ∀ (u : RV), GSl encP 1 27 w u.A u.c u.P → GSl encP 1 27 (w.setCell ⟨B, i.val, none⟩ v.val) u.A u.c u.P := fun u hu => hu.chg hc encP_len fun g j hs e => by
    obtain ⟨cs, hb⟩ := row_blk hu (slFp_blk hs)
    exact blk_type_ne hb h.blk (by decide) e
  have oks : ∀ p, okP w p → okP (w.setCell ⟨B, i.val, none⟩ v.val) p := fun p hp => hp.chg hc fun k j hk e => by
    obtain ⟨cs, hb⟩ := hp.cells hk
    exact blk_type_ne hb h.blk (by decide) e
  refine ⟨by rw [← bkC_upd]; exact h.blk.set_ i.val _, fun j => ?_, fun j => ?_, fun j j' hj k => ?_, fun j p hp => ?_, fun p hp => ?_, fun p hp j hj q hq => ?_, ?_⟩
  · by_cases e : j = i
    · rw [e, upd_self]; exact rows v hrow
    · rw [upd_ne V v e]; exact rows _ (h.row j)
  · by_cases e : j = i
    · rw [e, upd_self]; exact hloc
    · rw [upd_ne V v e]; exact h.loc j
  · by_cases e : j = i
    · by_cases e' : j' = i
      · exact absurd (e.trans e'.symm) hj
      · rw [e, upd_self, upd_ne V v e']; exact hsep j' e' k
    · by_cases e' : j' = i
      · rw [e', upd_self, upd_ne V v e]; exact fun h1 h2 => hsep j e k h2 h1
      · rw [upd_ne V v e, upd_ne V v e']; exact h.sep j j' hj k
  · by_cases e : j = i
    · rw [e, upd_self] at hp; exact oks p (hok p hp)
    · rw [upd_ne V v e] at hp; exact oks p (h.ok j p hp)
  · by_cases e : (0 : Fin 4) = i
    · rw [e, upd_self] at hp; exact hfull e.symm p hp
    · rw [upd_ne V v e] at hp; exact h.full p hp
  · by_cases e : (0 : Fin 4) = i
    · rw [e, upd_self] at hp
      rw [upd_ne V v (by rw [← e]; exact hj)] at hq
      exact hap e.symm p hp j hj q hq
    · rw [upd_ne V v e] at hp
      by_cases e' : j = i
      · rw [e', upd_self] at hq; exact hap2 (fun h => e h.symm) q hq p hp
      · rw [upd_ne V v e'] at hq; exact h.frs p hp j hj q hq
  · by_cases e : (0 : Fin 4) = i
    · rw [← e, upd_self]; exact hpw e.symm
    · rw [upd_ne V v e]; exact h.frp
/-- a list is put behind one of the four -/
theorem BkR.push (h : BkR w B mk V) (i : Fin 4) {p : PV} {A6 : Option Addr} {c6 : Nat} (h8 : GSl encP 1 27 w8 A6 c6 ((V i).P ++ [p])) (k8 : Chg (slFp 1 (V i).A (V i).P.length (V i).c) w w8) (q8 : (A6 = (V i).A ∧ c6 = (V i).c) ∨ ∃ g, A6 = some ⟨g, 0, none⟩ ∧ w.heap.size ≤ g)
    (hp : okP w p) (hf : i = 0 → p.c = p.n) (ha : ∀ j, ∀ q ∈ (V j).P, (j = 0 ∨ i = 0) → apart q p) :
    BkR (w8.setCell ⟨B, i.val, none⟩ (.slice A6 ((V i).P ++ [p]).length c6)) B mk (upd V i ⟨A6, c6, (V i).P ++ [p]⟩) ∧ Chg (fun k _ => k = B ∨ blkOf (V i).A k) w (w8.setCell ⟨B, i.val, none⟩ (.slice A6 ((V i).P ++ [p]).length c6)) ∧
      w8.cell? ⟨B, i.val, none⟩ = some (.slice (V i).A (V i).P.length (V i).c) ∧ w8.frozen? ⟨B, i.val, none⟩ = false := by
  have k8' : Chg (fun k _ => blkOf (V i).A k) w w8 := k8.mono fun k j _ hf => slFp_blk hf
  have hset : Chg (fun k _ => k = B) w8 (w8.setCell ⟨B, i.val, none⟩ (.slice A6 ((V i).P ++ [p]).length c6)) := Chg.setCell (fun k _ => k = B) _ rfl _
  have hb8 : Blk w8 B 54 (bkC V mk) := k8'.blk h.blk fun j hj => by
    obtain ⟨cs, hb⟩ := row_blk (h.row i) hj
    exact blk_type_ne hb h.blk (by decide) rfl
  have ok8 : ∀ q, okP w q → okP w8 q := fun q hq => hq.chg k8' fun k j hk hj => by
    obtain ⟨cs, hb⟩ := row_blk (h.row i) hj
    obtain ⟨cs2, hb2⟩ := hq.cells hk
    exact blk_type_ne hb hb2 (by decide) rfl
  have R8 : ∀ j, GSl encP 1 27 w8 (V j).A (V j).c (V j).P := fun j => by
    by_cases e : j = i
    · rw [e]
      refine (h.row i).chg k8 encP_len fun g q hs hq => ?_
      obtain ⟨o, e1, _, h3⟩ := hs
      obtain ⟨o', e1', h4, _⟩ := hq
      rw [e1] at e1'
      cases e1'
      omega
    · exact (h.row j).chg k8' encP_len fun g q hs hq => h.sep i j (fun e' => e e'.symm) g hq (slFp_blk hs)
  have H8 : BkR w8 B mk V := ⟨hb8, R8, h.loc, h.sep, fun j q hq => ok8 q (h.ok j q hq), h.full, h.frs, h.frp⟩
  refine ⟨H8.setRow i ⟨A6, c6, (V i).P ++ [p]⟩ h8 ?_ (fun j hj k hk => ?_) (fun q hq => ?_) (fun e q hq => ?_) (fun e q hq j hj r hr => ?_) (fun e q hq r hr => ?_) (fun e => ?_), (k8'.mono fun k j _ hf => .inr hf).trans hset fun k j _ hf => .inl hf, H8.cell i, hb8.frozen i.val⟩
  · rcases q8 with ⟨e1, _⟩ | ⟨g, e1, _⟩
    · show A6 = none ∨ _
      rw [e1]; exact h.loc i
    · exact .inr ⟨g, e1⟩
  · have hk : blkOf A6 k := hk
    rcases q8 with ⟨e1, _⟩ | ⟨g, e1, hg⟩
    · rw [e1] at hk; exact h.sep i j (fun e => hj e.symm) k hk
    · obtain ⟨a, e, rfl⟩ := hk
      rw [e1] at e
      cases e
      intro h2
      obtain ⟨cs, hb⟩ := row_blk (h.row j) h2
      have h3 := hb.lt
      dsimp only at h3
      omega
  · rcases List.mem_append.1 hq with hq | hq
    · exact ok8 q (h.ok i q hq)
    · obtain rfl := List.mem_singleton.1 hq; exact ok8 _ hp
  · rcases List.mem_append.1 hq with hq | hq
    · subst e; exact h.full q hq
    · obtain rfl := List.mem_singleton.1 hq; exact hf e
  · rcases List.mem_append.1 hq with hq | hq
    · subst e; exact h.frs q hq j hj r hr
    · obtain rfl := List.mem_singleton.1 hq; exact (ha j r hr (.inr e)).symm
  · rcases List.mem_append.1 hq with hq | hq
    · exact h.frs r hr i e q hq
    · obtain rfl := List.mem_singleton.1 hq; exact ha 0 r hr (.inl rfl)
  · subst e
    exact List.pairwise_append.2 ⟨h.frp, List.pairwise_singleton .., fun q hq r hr => by obtain rfl := List.mem_singleton.1 hr; exact ha 0 q hq (.inl rfl)⟩
end
theorem BkR.reset {w : World} {B : Nat} {mk : Int} {V : Fin 4 → RV} (h : BkR w B mk V) (i : Fin 4) : BkR (w.setCell ⟨B, i.val, none⟩ (.slice none 0 0)) B mk (upd V i RV.nil_) :=
  h.setRow i RV.nil_ GSl.nil_ (.inl rfl) (fun j _ k hk => by obtain ⟨a, e, _⟩ := hk; cases e) (fun p hp => by cases hp) (fun _ p hp => by cases hp) (fun _ p hp => by cases hp) (fun _ p hp => by cases hp) fun _ => List.Pairwise.nil
end Go.Proofs.Ytagkhhoimgighaa
