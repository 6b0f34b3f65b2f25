/- Package replicalaw09: the Book's state, keep and settled by contract. -/
import Derived.Test.YtkjbjfjgnponfaaLkBl
namespace Go.Proofs.Ytkjbjfjgnponfaa
open Go.RowKit
set_option linter.unusedSimpArgs false
set_option linter.unusedVariables false
def bkT (t : TypeId) : Prop := t = 57 ∨ t = 29 ∨ t = 3
/-- the Book, whatever was handed out; its lists' blocks lie below W0 -/
structure BkJ (base : Nat) (wr : World) (B : Nat) (late : Bool) (q W0 : Nat) (A0 A2 A3 : Option Addr) (c0 c2 c3 : Nat) (Ls Rw Ws : List SV) : Prop where
  s : BkS base wr B late A0 A2 A3 c0 c2 c3 Ls Rw Ws
  ev : Ls.length % 2 = 0
  ln : Ls.length ≤ 2 * q
  rn : Rw.length ≤ q
  lz : late = true → Ls = []
  rz : late = false → Rw = [] ∧ Ws = []
  lb : ∀ (i : Nat) (s : SV), Ls[i]? = some s → s.2.1 ≤ 4000000000080 ∧ ∀ k, blkOf s.1 k → k < W0
  rb : ∀ (i : Nat) (s : SV), Rw[i]? = some s → s.2.1 ≤ 4000000000000 ∧ ∀ k, blkOf s.1 k → base ≤ k ∧ k < W0
  wb : ∀ (i : Nat) (s : SV), Ws[i]? = some s → s.2.1 ≤ 4000000000000 ∧ ∀ k, blkOf s.1 k → k < W0
  rsep : ∀ (i j : Nat) (s t : SV), i ≠ j → Rw[i]? = some s → Rw[j]? = some t → ∀ k, blkOf s.1 k → ¬ blkOf t.1 k
  rws : ∀ (i j : Nat) (s t : SV), Rw[i]? = some s → Ws[j]? = some t → ∀ k, blkOf s.1 k → ¬ blkOf t.1 k
def BkI (base : Nat) (wr : World) (B : Nat) (late : Bool) (q W0 : Nat) : Prop := ∃ (A0 A2 A3 : Option Addr) (c0 c2 c3 : Nat) (Ls Rw Ws : List SV), BkJ base wr B late q W0 A0 A2 A3 c0 c2 c3 Ls Rw Ws
/-- what may have turned: blocks of the Book's types, from base on -/
def BkC (base : Nat) (w w' : World) : Prop := ∃ F : Nat → Nat → Prop, Chg F w w' ∧ ∀ k i, F k i → base ≤ k ∧ ∃ t cs, Blk w k t cs ∧ bkT t
section
variable {base B q W0 : Nat} {w wr wr' : World} {late : Bool}
theorem BkI.keep {F : Nat → Nat → Prop} (h : BkI base wr B late q W0) (hc : Chg F wr wr') (hn : ∀ k t cs, Blk wr k t cs → bkT t → ∀ i, ¬ F k i) : BkI base wr' B late q W0 := by
  obtain ⟨A0, A2, A3, c0, c2, c3, Ls, Rw, Ws, h⟩ := h
  exact ⟨A0, A2, A3, c0, c2, c3, Ls, Rw, Ws, h.s.keep hc hn, h.ev, h.ln, h.rn, h.lz, h.rz, h.lb, h.rb, h.wb, h.rsep, h.rws⟩
theorem BkI.below (h : BkI base wr B late q W0) (hB : Below wr.heap.size wr wr') : BkI base wr' B late q W0 := h.keep (Chg.of_below (fun _ _ => False) hB) fun _ _ _ _ _ _ h => h
theorem BkI.mono {q' W1 : Nat} (h : BkI base wr B late q W0) (hq : q ≤ q') (hW : W0 ≤ W1) : BkI base wr B late q' W1 := by
  obtain ⟨A0, A2, A3, c0, c2, c3, Ls, Rw, Ws, h⟩ := h
  exact ⟨A0, A2, A3, c0, c2, c3, Ls, Rw, Ws, h.s, h.ev, by have := h.ln; omega, Nat.le_trans h.rn hq, h.lz, h.rz, fun i s hs => ⟨(h.lb i s hs).1, fun k hk => Nat.lt_of_lt_of_le ((h.lb i s hs).2 k hk) hW⟩, fun i s hs => ⟨(h.rb i s hs).1, fun k hk => ⟨((h.rb i s hs).2 k hk).1, Nat.lt_of_lt_of_le ((h.rb i s hs).2 k hk).2 hW⟩⟩, fun i s hs => ⟨(h.wb i s hs).1, fun k hk => Nat.lt_of_lt_of_le ((h.wb i s hs).2 k hk) hW⟩, h.rsep, h.rws⟩
theorem BkI.made (w : World) (late : Bool) : BkI w.heap.size (w.alloc (.cells #[.slice none 0 0, .bool late, .slice none 0 0, .slice none 0 0] 57)) w.heap.size late 0 0 :=
  ⟨none, none, none, 0, 0, 0, [], [], [], ⟨Blk.new w _ _, GSl.nil_, GSl.nil_, GSl.nil_, .inl rfl, .inl rfl, .inl rfl, fun _ h => (by obtain ⟨_, e, _⟩ := h; cases e), fun _ h => (by obtain ⟨_, e, _⟩ := h; cases e), fun _ h => (by obtain ⟨_, e, _⟩ := h; cases e), Nat.le_refl _, fun i s h => by simp at h, fun i s h => by simp at h, fun i s h => by simp at h, rfl, fun _ i s t h => by simp at h⟩, rfl, Nat.le_refl _, Nat.le_refl _, fun _ => rfl, fun _ => ⟨rfl, rfl⟩, fun i s h => by simp at h, fun i s h => by simp at h, fun i s h => by simp at h, fun i j s t _ h => by simp at h, fun i j s t h => by simp at h⟩
theorem BkI.lower {b' : Nat} (h : BkI base wr B late q W0) (hb : b' ≤ base) : BkI b' wr B late q W0 := by
  obtain ⟨A0, A2, A3, c0, c2, c3, Ls, Rw, Ws, h⟩ := h
  have lo : ∀ (A : Option Addr), (A = none ∨ ∃ g, A = some ⟨g, 0, none⟩ ∧ base ≤ g) → (A = none ∨ ∃ g, A = some ⟨g, 0, none⟩ ∧ b' ≤ g) := fun A h => h.imp id fun ⟨g, e, h2⟩ => ⟨g, e, Nat.le_trans hb h2⟩
  exact ⟨A0, A2, A3, c0, c2, c3, Ls, Rw, Ws, ⟨h.s.blk, h.s.g0, h.s.g2, h.s.g3, lo _ h.s.l0, lo _ h.s.l2, lo _ h.s.l3, h.s.s02, h.s.s03, h.s.s23, Nat.le_trans hb h.s.hB, h.s.lists, h.s.raws, h.s.was, h.s.rlen, h.s.like⟩, h.ev, h.ln, h.rn, h.lz, h.rz, h.lb, fun i s hs => ⟨(h.rb i s hs).1, fun k hk => ⟨Nat.le_trans hb ((h.rb i s hs).2 k hk).1, ((h.rb i s hs).2 k hk).2⟩⟩, h.wb, h.rsep, h.rws⟩
theorem BkI.late_cell (h : BkI base wr B late q W0) : wr.cell? ⟨B, 1, none⟩ = some (.bool late) := by
  obtain ⟨A0, A2, A3, c0, c2, c3, Ls, Rw, Ws, h⟩ := h
  exact h.s.blk.cell 1
theorem BkI.blk (h : BkI base wr B late q W0) : ∃ cs, Blk wr B 57 cs := by
  obtain ⟨A0, A2, A3, c0, c2, c3, Ls, Rw, Ws, h⟩ := h
  exact ⟨_, h.s.blk⟩
theorem BkC.bel (h : BkC base w wr) (hb : base ≤ w.heap.size) : Below base w wr := by
  obtain ⟨F, hC, hF⟩ := h
  exact hC.below hb fun k i hk hf => by have := (hF k i hf).1; omega
end
theorem last_of {X Y : List SV} {x : SV} {i : Nat} (h : (X ++ Y)[i]? = some x) : X[i]? = some x ∨ (X.length ≤ i ∧ Y[i - X.length]? = some x) := by
  by_cases hi : i < X.length
  · rw [List.getElem?_append_left hi] at h; exact .inl h
  · rw [List.getElem?_append_right (by omega)] at h; exact .inr ⟨by omega, h⟩
/-- kept -/
theorem keptI_any {base B q W0 : Nat} {late : Bool} {w : World} (h : BkI base w B late q W0) (hq : q ≤ 400000000000) :
    Calls Try.prog 62 #[.pointer (some ⟨B, 0, none⟩)] w fun e w' => e = .returned (.bool true) ∧ Below w.heap.size w w' := by
  obtain ⟨A0, A2, A3, c0, c2, c3, Ls, Rw, Ws, h⟩ := h
  exact kept_any base B _ _ late A0 A2 A3 c0 c2 c3 Ls Rw Ws w h.s rfl rfl (by have := h.ln; omega) (by have := h.rn; omega) (fun i s hs => by have := (h.lb i s hs).1; omega) (fun i s hs => by have := (h.rb i s hs).1; omega) (fun i s hs => by have := (h.wb i s hs).1; omega)
/-- keep -/
theorem keepI_any {base B q W0 n c : Nat} {late : Bool} {A : Option Addr} {l : List Int} {w : World} (h : BkI base w B late q W0) (hq : q ≤ 400000000000) (hK : KO w A c l) (hn : l.length = n) (hnb : n ≤ 4000000000000) (hA : ∀ k, blkOf A k → base ≤ k ∧ W0 ≤ k) (hb0 : base ≤ w.heap.size) :
    Calls Try.prog 42 #[.pointer (some ⟨B, 0, none⟩), .slice A n c] w fun e w' => e = .returned (.tuple #[]) ∧ BkI base w' B late (q + 1) w'.heap.size ∧ BkC base w w' := by
  obtain ⟨A0, A2, A3, c0, c2, c3, Ls, Rw, Ws, h⟩ := h
  have hAlt : ∀ k, blkOf A k → k < w.heap.size := fun k hk => by
    obtain ⟨a, e, rfl⟩ := hk
    exact hK.lt e
  have hAt : ∀ k, blkOf A k → ∃ cs, Blk w k 3 cs := fun k hk => by
    obtain ⟨a, e, rfl⟩ := hk
    exact hK.blk e
  have arr : ∀ (A1 : Option Addr) (c : Nat) (l : List SV), GSl encS 1 29 w A1 c l → (A1 = none ∨ ∃ g, A1 = some ⟨g, 0, none⟩ ∧ base ≤ g) → ∀ k, blkOf A1 k → base ≤ k ∧ ∃ t cs, Blk w k t cs ∧ bkT t := fun A1 c l hg hl k hk => by
    obtain ⟨cs, hb⟩ := g_blk hg hk
    refine ⟨?_, _, cs, hb, .inr (.inl rfl)⟩
    obtain ⟨a, e, rfl⟩ := hk
    rcases hl with h1 | ⟨g, h1, h2⟩
    · rw [h1] at e; cases e
    · rw [h1] at e; cases e; exact h2
  cases late with
  | false =>
    obtain ⟨rfl, rfl⟩ := h.rz rfl
    refine (keepE_any base B _ n c A A0 A2 A3 c0 c2 c3 Ls [] [] l w h.s rfl h.ev (by have := h.ln; omega) hK hn (by omega) (fun k hk i s hs h2 => ?_) (fun i s hs => by simp at hs) (fun i s hs => by simp at hs)).mono fun e w' hp => ?_
    · have := (hA k hk).2
      have := (h.lb i s hs).2 k h2
      omega
    · obtain ⟨he, A0', c0', Ag, gc, hs, hC, hF0, hFg⟩ := hp
      refine ⟨he, ⟨A0', A2, A3, c0', c2, c3, _, [], [], hs, ?_, ?_, Nat.zero_le _, (fun e => by cases e), fun _ => ⟨rfl, rfl⟩, fun i s hs2 => ?_, fun i s hs => by simp at hs, fun i s hs => by simp at hs, fun i j s t _ hs => by simp at hs, fun i j s t hs => by simp at hs⟩, _, hC, fun k i hf => ?_⟩
      · rw [List.length_append]; have := h.ev; simp; omega
      · rw [List.length_append]; have := h.ln; simp; omega
      · refine ⟨?_, fun k hk => ?_⟩
        · rcases last_of hs2 with h1 | ⟨h1, h2⟩
          · exact (h.lb i s h1).1
          · match i - Ls.length, h2 with
            | 0, h2 => cases h2; show n ≤ _; omega
            | 1, h2 => cases h2; show n + 80 ≤ _; omega
        · obtain ⟨a, e, rfl⟩ := hk
          exact (hs.lists i s hs2).lt e
      · rcases hf with rfl | hf | hf
        · exact ⟨h.s.hB, _, _, h.s.blk, .inl rfl⟩
        · exact arr _ _ _ h.s.g0 h.s.l0 k hf
        · obtain ⟨cs, hb⟩ := hAt k hf
          exact ⟨(hA k hf).1, _, cs, hb, .inr (.inr rfl)⟩
  | true =>
    have hLs := h.lz rfl
    subst hLs
    refine (keepL_any base B _ n c A A0 A2 A3 c0 c2 c3 [] Rw Ws l w h.s rfl (by have := h.rn; omega) hK hn (by omega)).mono fun e w' hp => ?_
    obtain ⟨he, A2', A3', c2', c3', Aw, cw, hs, hC, hFw⟩ := hp
    have hsz := hC.size
    refine ⟨he, ⟨A0, A2', A3', c0, c2', c3', [], _, _, hs, rfl, Nat.zero_le _, ?_, fun _ => rfl, (fun e => by cases e), fun i s hs => by simp at hs, fun i s hs2 => ?_, fun i s hs2 => ?_, fun i j s t hij h1 h2 k hk1 hk2 => ?_, fun i j s t h1 h2 k hk1 hk2 => ?_⟩, _, hC, fun k i hf => ?_⟩
    · rw [List.length_append]; have := h.rn; simp; omega
    · rcases last_of hs2 with h1 | ⟨h1, h2⟩
      · refine ⟨(h.rb i s h1).1, fun k hk => ⟨((h.rb i s h1).2 k hk).1, ?_⟩⟩
        obtain ⟨l2, k2, _⟩ := hs.raws i s hs2
        obtain ⟨a, e, rfl⟩ := hk
        exact k2.lt e
      · match i - Rw.length, h2 with
        | 0, h2 =>
          cases h2
          exact ⟨hnb, fun k hk => ⟨(hA k hk).1, Nat.lt_of_lt_of_le (hAlt k hk) hsz⟩⟩
    · rcases last_of hs2 with h1 | ⟨h1, h2⟩
      · refine ⟨(h.wb i s h1).1, fun k hk => ?_⟩
        obtain ⟨l2, k2, _⟩ := hs.was i s hs2
        obtain ⟨a, e, rfl⟩ := hk
        exact k2.lt e
      · match i - Ws.length, h2 with
        | 0, h2 =>
          cases h2
          refine ⟨hnb, fun k hk => ?_⟩
          obtain ⟨l2, k2, _⟩ := hs.was i _ hs2
          obtain ⟨a, e, rfl⟩ := hk
          exact k2.lt e
    · rcases last_of h1 with h3 | ⟨h3, h4⟩
      · rcases last_of h2 with h5 | ⟨h5, h6⟩
        · exact h.rsep i j s t hij h3 h5 k hk1 hk2
        · match j - Rw.length, h6 with
          | 0, h6 =>
            cases h6
            have := (hA k hk2).2
            have := ((h.rb i s h3).2 k hk1).2
            omega
      · rcases last_of h2 with h5 | ⟨h5, h6⟩
        · have hi0 : i - Rw.length = 0 := by have := (List.getElem?_eq_some_iff.1 h4).1; simp at this; omega
          rw [hi0] at h4
          cases h4
          have := (hA k hk1).2
          have := ((h.rb j t h5).2 k hk2).2
          omega
        · have hi0 : i - Rw.length = 0 := by have := (List.getElem?_eq_some_iff.1 h4).1; simp at this; omega
          have hj0 : j - Rw.length = 0 := by have := (List.getElem?_eq_some_iff.1 h6).1; simp at this; omega
          omega
    · rcases last_of h1 with h3 | ⟨h3, h4⟩
      · rcases last_of h2 with h5 | ⟨h5, h6⟩
        · exact h.rws i j s t h3 h5 k hk1 hk2
        · have hj0 : j - Ws.length = 0 := by have := (List.getElem?_eq_some_iff.1 h6).1; simp at this; omega
          rw [hj0] at h6
          cases h6
          have h7 := hFw k hk2
          obtain ⟨l2, k2, _⟩ := h.s.raws i s h3
          obtain ⟨a, e, rfl⟩ := hk1
          have := k2.lt e
          omega
      · have hi0 : i - Rw.length = 0 := by have := (List.getElem?_eq_some_iff.1 h4).1; simp at this; omega
        rw [hi0] at h4
        cases h4
        rcases last_of h2 with h5 | ⟨h5, h6⟩
        · have := (hA k hk1).2
          have := (h.wb j t h5).2 k hk2
          omega
        · have hj0 : j - Ws.length = 0 := by have := (List.getElem?_eq_some_iff.1 h6).1; simp at this; omega
          rw [hj0] at h6
          cases h6
          have h7 := hFw k hk2
          have h8 := hAlt k hk1
          omega
    · rcases hf with rfl | hf | hf
      · exact ⟨h.s.hB, _, _, h.s.blk, .inl rfl⟩
      · exact arr _ _ _ h.s.g2 h.s.l2 k hf
      · exact arr _ _ _ h.s.g3 h.s.l3 k hf
/-- the time to write has come -/
theorem BkS.now {base B : Nat} {wr : World} {late : Bool} {A0 A2 A3 : Option Addr} {c0 c2 c3 : Nat} {Ls Rw Ws : List SV} (h : BkS base wr B late A0 A2 A3 c0 c2 c3 Ls Rw Ws) : BkS base (wr.setCell ⟨B, 1, none⟩ (.bool false)) B false A0 A2 A3 c0 c2 c3 Ls Rw Ws := by
  have hset : Chg (fun k _ => k = B) wr (wr.setCell ⟨B, 1, none⟩ (.bool false)) := Chg.setCell (fun k _ => k = B) _ (show B = B from rfl) _
  have hg : ∀ (A : Option Addr) (c : Nat) (l : List SV), GSl encS 1 29 wr A c l → GSl encS 1 29 (wr.setCell ⟨B, 1, none⟩ (.bool false)) A c l := fun A c l hg => hg.chg hset encS_len fun g i hs e => by
    obtain ⟨o, e2, _⟩ := hs
    obtain ⟨cs, hb⟩ := g_blk hg ⟨_, e2, rfl⟩
    exact blk_type_ne hb h.blk (by decide) e
  have hk : ∀ (A : Option Addr) (c : Nat) (l : List Int), KO wr A c l → KO (wr.setCell ⟨B, 1, none⟩ (.bool false)) A c l := fun A c l hk => hk.chg hset fun ad e i e2 => by
    obtain ⟨cs, hb⟩ := hk.blk e
    exact blk_type_ne hb h.blk (by decide) e2
  exact ⟨h.blk.set_ 1 _, hg _ _ _ h.g0, hg _ _ _ h.g2, hg _ _ _ h.g3, h.l0, h.l2, h.l3, h.s02, h.s03, h.s23, h.hB, fun i s hs => hk _ _ _ (h.lists i s hs), fun i s hs => by obtain ⟨l, a, b⟩ := h.raws i s hs; exact ⟨l, hk _ _ _ a, b⟩, fun i s hs => by obtain ⟨l, a, b⟩ := h.was i s hs; exact ⟨l, hk _ _ _ a, b⟩, h.rlen, fun e => by cases e⟩
set_option maxRecDepth 20000 in
set_option maxHeartbeats 16000000 in
theorem settled_any (base B q W0 : Nat) (w : World) (h : BkI base w B true q W0) (hq : q ≤ 400000000000) (hb0 : base ≤ w.heap.size) :
    Calls Try.prog 63 #[.pointer (some ⟨B, 0, none⟩)] w fun e w' => e = .returned (.bool true) ∧ Below base w w' := by
  have g1 := Lib.hid (keptI_any h hq)
  obtain ⟨A0, A2, A3, c0, c2, c3, Ls, Rw, Ws, h⟩ := h
  obtain ⟨rn, hrn⟩ : ∃ rn, rn = Rw.length := ⟨_, rfl⟩
  have HRN := Lib.hid hrn.symm
  have hrq : rn ≤ q := by rw [hrn]; exact h.rn
  have HB := Lib.hid h
  have hLs := h.lz rfl
  subst hLs
  clear h hrn
  go_enter Try.func63, Try.ntmps63
  go_wp2_with fail
  refine g1.out.mono ?_
  rintro e w1 ⟨rfl, hB1⟩
  clear g1
  have S1 := Lib.hid (HB.out.s.below hB1)
  have c1 : w1.cell? ⟨B, 1, none⟩ = some (.bool true) := S1.out.blk.cell 1
  have f1 := S1.out.blk.frozen 1
  have S2 := Lib.hid S1.out.now
  have B2 := Lib.hid (show Below base w (w1.setCell ⟨B, 1, none⟩ (.bool false)) from (hB1.mono hb0).setCell (p := ⟨B, 1, none⟩) HB.out.s.hB (.bool false))
  clear hB1
  go_wp2_with fail
  go_loopw [4] (fun t4 wr => ∃ (i : Nat) (A0 : Option Addr) (c0 : Nat) (Ls : List SV), i ≤ rn ∧ t4 = .int .i64 (i : Int) ∧ Hid (BkS base wr B false A0 A2 A3 c0 c2 c3 Ls Rw Ws) ∧ Hid (Ls.length = 2 * i) ∧ Hid (∀ (j : Nat) (s : SV), Ls[j]? = some s → s.2.1 ≤ 4000000000080 ∧ ∀ k, blkOf s.1 k → (∃ (i2 : Nat) (t : SV), i2 < i ∧ Rw[i2]? = some t ∧ blkOf t.1 k) ∨ w.heap.size ≤ k) ∧ Hid (Below base w wr)) (fun t4 _ => rn - (intOf t4).toNat)
  case atStart => exact ⟨0, A0, c0, [], Nat.zero_le _, rfl, S2, Lib.hid rfl, Lib.hid (fun j s hs => by simp at hs), B2⟩
  case round =>
    clear S1 S2 B2 c1 f1
    obtain ⟨i, A0, c0, Ls, hi, rfl, hS, hL, hJ, hBw⟩ := hrel
    have b2 : wr.cell? ⟨B, 2, none⟩ = some (.slice A2 rn c2) := by rw [← HRN.out]; exact hS.out.blk.cell 2
    by_cases hli : i < rn
    · have hli' : (i : Int) < (rn : Int) := by omega
      obtain ⟨s, hs⟩ : ∃ s, Rw[i]? = some s := ⟨_, List.getElem?_eq_getElem (by rw [HRN.out]; exact hli)⟩
      obtain ⟨g2, o2, e2, _, hc2⟩ := hS.out.g2.rds i s hs
      have x2 : wr.cell? ⟨g2, o2 + i, none⟩ = some (.slice s.1 s.2.1 s.2.2) := by have := hc2 0 _ rfl; simpa using this
      obtain ⟨l, hK, hl⟩ := hS.out.raws i s hs
      have hlt0 : ∀ (j : Nat) (t : SV), Rw[j]? = some t → ∀ k, blkOf t.1 k → k < w.heap.size := fun j t ht k hk => by
        obtain ⟨l2, k2, _⟩ := HB.out.s.raws j t ht
        obtain ⟨a, e, rfl⟩ := hk
        exact k2.lt e
      have gk := keepE_any base B (2 * i) s.2.1 s.2.2 s.1 A0 A2 A3 c0 c2 c3 Ls Rw Ws l wr hS.out hL.out (by omega) (by omega) hK hl (by have := (HB.out.rb i s hs).1; omega) (fun k hk j t ht h2 => by
          rcases (hJ.out j t ht).2 k h2 with ⟨i2, u, h3, h4, h5⟩ | h3
          · exact HB.out.rsep i i2 s u (by omega) hs h4 k hk h5
          · have := hlt0 i s hs k hk; omega)
        (fun j t ht => by
          by_cases e : j = i
          · subst e
            rw [hs] at ht
            cases ht
            exact .inr rfl
          · exact .inl fun k hk => HB.out.rsep j i t s e ht hs k hk)
        (fun j t ht k hk h2 => HB.out.rws i j s t hs ht k h2 hk)
      have HK2 := Lib.hid (HB.out.rb i s hs)
      have HLT := Lib.hid (hlt0 i s hs)
      have GK := Lib.hid gk
      have HSS := Lib.hid hs
      subst e2
      obtain ⟨sA, sn, sc⟩ := s
      dsimp only at x2 GK
      clear hs hc2 hK hl hlt0 gk
      go_wp2_with fail
      refine GK.out.mono ?_
      rintro e w5 ⟨rfl, A0', c0', Ag, gc, hS5, hC5, hF5, hG5⟩
      have S5 := Lib.hid hS5
      have hsz := hBw.out.size
      have B5 := Lib.hid (hBw.out.trans (hC5.below (by omega) fun k j hk hf => by
        rcases hf with hf | hf | hf
        · have := hS.out.hB; omega
        · obtain ⟨a, e, e3⟩ := hf
          rcases hS.out.l0 with h1 | ⟨g, h1, h2⟩
          · rw [h1] at e; cases e
          · rw [h1] at e; cases e
            have e4 : g = k := e3
            omega
        · have := (HK2.out.2 k hf).1; omega))
      have J5 := Lib.hid (show ∀ (j : Nat) (s : SV), (Ls ++ [(sA, sn, sc), (Ag, sn + 80, gc)])[j]? = some s → s.2.1 ≤ 4000000000080 ∧ ∀ k, blkOf s.1 k → (∃ (i2 : Nat) (t : SV), i2 < i + 1 ∧ Rw[i2]? = some t ∧ blkOf t.1 k) ∨ w.heap.size ≤ k from fun j t ht => by
        have hsn : sn ≤ 4000000000000 := HK2.out.1
        rcases last_of ht with h1 | ⟨h1, h2⟩
        · refine ⟨(hJ.out j t h1).1, fun k hk => ((hJ.out j t h1).2 k hk).imp (fun ⟨i2, u, a, b, c⟩ => ⟨i2, u, by omega, b, c⟩) id⟩
        · match j - Ls.length, h2 with
          | 0, h2 =>
            cases h2
            exact ⟨by show sn ≤ _; omega, fun k hk => .inl ⟨i, _, by omega, HSS.out, hk⟩⟩
          | 1, h2 =>
            cases h2
            refine ⟨by show sn + 80 ≤ _; omega, fun k hk => ?_⟩
            rcases hG5 k hk with h3 | h3
            · exact .inl ⟨i, _, by omega, HSS.out, h3⟩
            · exact .inr (by omega))
      have L5 := Lib.hid (show (Ls ++ [(sA, sn, sc), (Ag, sn + 80, gc)]).length = 2 * (i + 1) by rw [List.length_append, hL.out]; simp; omega)
      clear GK hS5 hC5 hF5 hG5 b2 x2
      go_wp2
      go_roundw
      case rel => exact ⟨i + 1, A0', c0', _, by omega, by go_num, S5, L5, J5, B5⟩
      case measure => simp [intOf]; omega
    · obtain rfl : i = rn := by omega
      have gk := Lib.hid (kept_any base B (2 * i) i false A0 A2 A3 c0 c2 c3 Ls Rw Ws wr hS.out hL.out HRN.out (by omega) (by omega) (fun j s hs => by have := (hJ.out j s hs).1; omega) (fun j s hs => by have := (HB.out.rb j s hs).1; omega) (fun j s hs => by have := (HB.out.wb j s hs).1; omega))
      go_wp2_with fail
      refine gk.out.mono ?_
      rintro e w5 ⟨rfl, hB5⟩
      have B5 := Lib.hid (hBw.out.trans (hB5.mono (by have := hBw.out.size; omega)))
      clear gk hB5
      go_wp2
      go_ret
      exact ⟨rfl, B5.out⟩
end Go.Proofs.Ytkjbjfjgnponfaa
