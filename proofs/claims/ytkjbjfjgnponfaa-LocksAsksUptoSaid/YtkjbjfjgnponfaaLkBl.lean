/- Package replicalaw09: the Book's keep, the list kept as it came, by contract. -/
import Derived.Test.YtkjbjfjgnponfaaLkBe
namespace Go.Proofs.Ytkjbjfjgnponfaa
open Go.RowKit
set_option linter.unusedSimpArgs false
set_option linter.unusedVariables false
theorem GSl.empty {α : Type} (enc : α → List Value) (sz : Nat) (e : TypeId) (w : World) : GSl enc sz e (w.alloc (.cells #[] e)) (some ⟨w.heap.size, 0, none⟩) 0 [] :=
  .inr ⟨_, 0, #[], rfl, Nat.le_refl _, by simp [maxLen], Blk.new w e #[], by simp, fun i x h => by simp at h⟩
section
variable {base B : Nat} {w v wb w8 w9 : World} {A0 A2 A2' A3 A3' : Option Addr} {c0 c2 c2' c3 c3' : Nat} {Ls Rw Ws : List SV} {s t : SV} {l : List Int}
/-- the first list is written down -/
theorem BkS.late1 {late : Bool} (h : BkS base w B late A0 A2 A3 c0 c2 c3 Ls Rw Ws) (h8 : GSl encS 1 29 w8 A2' c2' (Rw ++ [s])) (k8 : Chg (slFp 1 A2 Rw.length c2) w w8) (q8 : (A2' = A2 ∧ c2' = c2) ∨ ∃ g, A2' = some ⟨g, 0, none⟩ ∧ w.heap.size ≤ g) :
    Blk (w8.setCell ⟨B, 2, none⟩ (.slice A2' (Rw ++ [s]).length c2')) B 57 #[.slice A0 Ls.length c0, .bool late, .slice A2' (Rw ++ [s]).length c2', .slice A3 Ws.length c3] ∧ GSl encS 1 29 (w8.setCell ⟨B, 2, none⟩ (.slice A2' (Rw ++ [s]).length c2')) A2' c2' (Rw ++ [s]) ∧
      Chg (fun k _ => k = B ∨ blkOf A2 k) w (w8.setCell ⟨B, 2, none⟩ (.slice A2' (Rw ++ [s]).length c2')) ∧ (∀ k, blkOf A2' k → blkOf A2 k ∨ w.heap.size ≤ k) ∧ w8.cell? ⟨B, 2, none⟩ = some (.slice A2 Rw.length c2) ∧ w8.frozen? ⟨B, 2, none⟩ = false := by
  have hset : Chg (fun k _ => k = B) w8 (w8.setCell ⟨B, 2, none⟩ (.slice A2' (Rw ++ [s]).length c2')) := Chg.setCell (fun k _ => k = B) _ (show B = B from rfl) _
  have k8' : Chg (fun k _ => blkOf A2 k) w w8 := k8.mono fun k i _ hf => slFp_blk hf
  have hb8 : Blk w8 B 57 #[.slice A0 Ls.length c0, .bool late, .slice A2 Rw.length c2, .slice A3 Ws.length c3] := k8'.blk h.blk fun i hf => by
    obtain ⟨cs, hb⟩ := g_blk h.g2 hf
    exact blk_type_ne hb h.blk (by decide) rfl
  refine ⟨hb8.set_ 2 _, h8.chg hset encS_len fun g i hs e => ?_, (k8'.mono fun k i _ hf => .inr hf).trans hset fun k i _ hf => .inl hf, fun k hk => ?_, hb8.cell 2, hb8.frozen 2⟩
  · obtain ⟨o, e2, _⟩ := hs
    obtain ⟨cs, hb⟩ := g_blk h8 ⟨_, e2, rfl⟩
    exact blk_type_ne hb hb8 (by decide) e
  · rcases q8 with ⟨e1, _⟩ | ⟨g, e1, hg⟩
    · rw [e1] at hk; exact .inl hk
    · obtain ⟨a, e, rfl⟩ := hk
      rw [e1] at e; cases e; exact .inr hg
/-- and its copy -/
theorem BkS.late2 (h : BkS base w B true A0 A2 A3 c0 c2 c3 Ls Rw Ws) (hC : Chg (fun k _ => k = B ∨ blkOf A2 k) w v) (hb : Blk v B 57 #[.slice A0 Ls.length c0, .bool true, .slice A2' (Rw ++ [s]).length c2', .slice A3 Ws.length c3]) (hg : GSl encS 1 29 v A2' c2' (Rw ++ [s])) (hq : ∀ k, blkOf A2' k → blkOf A2 k ∨ w.heap.size ≤ k) (hl2 : A2' = none ∨ ∃ g, A2' = some ⟨g, 0, none⟩)
    (hB : Below v.heap.size v wb) (hs : KO wb s.1 s.2.2 l) (hsl : l.length = s.2.1) (ht : KO wb t.1 t.2.2 l) (htl : l.length = t.2.1)
    (h9 : GSl encS 1 29 w9 A3' c3' (Ws ++ [t])) (k9 : Chg (slFp 1 A3 Ws.length c3) wb w9) (q9 : (A3' = A3 ∧ c3' = c3) ∨ ∃ g, A3' = some ⟨g, 0, none⟩ ∧ wb.heap.size ≤ g) :
    BkS base (w9.setCell ⟨B, 3, none⟩ (.slice A3' (Ws ++ [t]).length c3')) B true A0 A2' A3' c0 c2' c3' Ls (Rw ++ [s]) (Ws ++ [t]) ∧ Chg (fun k _ => k = B ∨ blkOf A2 k ∨ blkOf A3 k) w (w9.setCell ⟨B, 3, none⟩ (.slice A3' (Ws ++ [t]).length c3')) ∧ (∀ k, blkOf A3' k → blkOf A3 k ∨ w.heap.size ≤ k) ∧ w9.cell? ⟨B, 3, none⟩ = some (.slice A3 Ws.length c3) ∧ w9.frozen? ⟨B, 3, none⟩ = false := by
  have hwv : w.heap.size ≤ v.heap.size := hC.size
  have hvb : v.heap.size ≤ wb.heap.size := hB.size
  have hset : Chg (fun k _ => k = B) w9 (w9.setCell ⟨B, 3, none⟩ (.slice A3' (Ws ++ [t]).length c3')) := Chg.setCell (fun k _ => k = B) _ (show B = B from rfl) _
  have k9' : Chg (fun k _ => blkOf A3 k) wb w9 := k9.mono fun k i _ hf => slFp_blk hf
  have hbb : Blk wb B 57 #[.slice A0 Ls.length c0, .bool true, .slice A2' (Rw ++ [s]).length c2', .slice A3 Ws.length c3] := hb.below hB hb.lt
  have h3v : GSl encS 1 29 v A3 c3 Ws := h.g3.chg hC encS_len fun g i hs hf => by
    obtain ⟨o, e, _⟩ := hs
    rcases hf with hf | hf
    · obtain ⟨cs, hb2⟩ := g_blk h.g3 ⟨_, e, rfl⟩
      exact blk_type_ne hb2 h.blk (by decide) hf
    · exact h.s23 g hf ⟨_, e, rfl⟩
  have h3b : GSl encS 1 29 wb A3 c3 Ws := h3v.chg (Chg.of_below (fun _ _ => False) hB) encS_len fun _ _ _ h => h
  have hb9 : Blk w9 B 57 #[.slice A0 Ls.length c0, .bool true, .slice A2' (Rw ++ [s]).length c2', .slice A3 Ws.length c3] := k9'.blk hbb fun i hf => by
    obtain ⟨cs, hb2⟩ := g_blk h3b hf
    exact blk_type_ne hb2 hbb (by decide) rfl
  have hCw : Chg (fun k _ => k = B ∨ blkOf A2 k ∨ blkOf A3 k) w (w9.setCell ⟨B, 3, none⟩ (.slice A3' (Ws ++ [t]).length c3')) :=
    (((hC.mono fun k i _ hf => hf.imp id fun h => .inl h).trans (Chg.of_below (fun _ _ => False) hB) (fun _ _ _ h => h.elim)).trans k9' fun k i _ hf => .inr (.inr hf)).trans hset fun k i _ hf => .inl hf
  have hCb : Chg (fun k _ => k = B ∨ blkOf A3 k) wb (w9.setCell ⟨B, 3, none⟩ (.slice A3' (Ws ++ [t]).length c3')) := (k9'.mono fun k i _ hf => .inr hf).trans hset fun k i _ hf => .inl hf
  have hk : ∀ (A1 : Option Addr) (c : Nat) (l : List Int), KO w A1 c l → KO (w9.setCell ⟨B, 3, none⟩ (.slice A3' (Ws ++ [t]).length c3')) A1 c l := fun A1 c l hk => hk.chg hCw fun ad e i hf => by
    obtain ⟨cs2, hb2⟩ := hk.blk e
    rcases hf with hf | hf | hf
    · exact blk_type_ne hb2 h.blk (by decide) hf
    · obtain ⟨cs, hb3⟩ := g_blk h.g2 hf
      exact blk_type_ne hb3 hb2 (by decide) rfl
    · obtain ⟨cs, hb3⟩ := g_blk h.g3 hf
      exact blk_type_ne hb3 hb2 (by decide) rfl
  have hkb : ∀ (A1 : Option Addr) (c : Nat) (l : List Int), KO wb A1 c l → KO (w9.setCell ⟨B, 3, none⟩ (.slice A3' (Ws ++ [t]).length c3')) A1 c l := fun A1 c l hk => hk.chg hCb fun ad e i hf => by
    obtain ⟨cs2, hb2⟩ := hk.blk e
    rcases hf with hf | hf
    · exact blk_type_ne hb2 hbb (by decide) hf
    · obtain ⟨cs, hb3⟩ := g_blk h3b hf
      exact blk_type_ne hb3 hb2 (by decide) rfl
  have hn3 : ∀ k, blkOf A3' k → blkOf A3 k ∨ wb.heap.size ≤ k := fun k hk => by
    rcases q9 with ⟨e1, _⟩ | ⟨g, e1, hg⟩
    · rw [e1] at hk; exact .inl hk
    · obtain ⟨a, e, rfl⟩ := hk
      rw [e1] at e; cases e; exact .inr hg
  have hlt3 : ∀ k, blkOf A3 k → k < w.heap.size := fun k hk => by obtain ⟨cs, hb⟩ := g_blk h.g3 hk; exact hb.lt
  have hlt0 : ∀ k, blkOf A0 k → k < w.heap.size := fun k hk => by obtain ⟨cs, hb⟩ := g_blk h.g0 hk; exact hb.lt
  have hlt2 : ∀ k, blkOf A2' k → k < v.heap.size := fun k hk => by obtain ⟨cs, hb⟩ := g_blk hg hk; exact hb.lt
  have last : ∀ (X : List SV) (u x : SV) (i : Nat), (X ++ [u])[i]? = some x → X[i]? = some x ∨ (i = X.length ∧ x = u) := fun X u x i hx => by
    by_cases hi : i < X.length
    · rw [List.getElem?_append_left hi] at hx; exact .inl hx
    · rw [List.getElem?_append_right (by omega)] at hx
      have hil := (List.getElem?_eq_some_iff.1 hx).1
      simp at hil
      obtain rfl : i = X.length := by omega
      simp at hx
      exact .inr ⟨rfl, hx.symm⟩
  refine ⟨⟨?_, ?_, ?_, ?_, h.l0, ?_, ?_, fun k h1 h2 => ?_, fun k h1 h2 => ?_, fun k h1 h2 => ?_, h.hB, fun i x hx => hk _ _ _ (h.lists i x hx), fun i x hx => ?_, fun i x hx => ?_, ?_, fun _ i x y hx hy => ?_⟩, hCw, fun k hk => (hn3 k hk).imp id fun h => by omega, hb9.cell 3, hb9.frozen 3⟩
  · exact hb9.set_ 3 _
  · exact h.g0.chg hCw encS_len fun g i hs hf => by
      obtain ⟨o, e, _⟩ := hs
      rcases hf with hf | hf | hf
      · obtain ⟨cs, hb2⟩ := g_blk h.g0 ⟨_, e, rfl⟩
        exact blk_type_ne hb2 h.blk (by decide) hf
      · exact h.s02 g ⟨_, e, rfl⟩ hf
      · exact h.s03 g ⟨_, e, rfl⟩ hf
  · exact (hg.chg (Chg.of_below (fun _ _ => False) hB) encS_len fun _ _ _ h => h).chg hCb encS_len fun g i hs hf => by
      obtain ⟨o, e, _⟩ := hs
      rcases hf with hf | hf
      · obtain ⟨cs, hb2⟩ := g_blk hg ⟨_, e, rfl⟩
        exact blk_type_ne hb2 hb (by decide) hf
      · rcases hq g ⟨_, e, rfl⟩ with h1 | h1
        · exact h.s23 g h1 hf
        · have := hlt3 g hf; omega
  · exact h9.chg hset encS_len fun g i hs e => by
      obtain ⟨o, e2, _⟩ := hs
      obtain ⟨cs, hb2⟩ := g_blk h9 ⟨_, e2, rfl⟩
      exact blk_type_ne hb2 hb9 (by decide) e
  · rcases hl2 with e1 | ⟨g, e1⟩
    · exact .inl e1
    · rcases hq g ⟨_, e1, rfl⟩ with h1 | h1
      · obtain ⟨a, ea, e2⟩ := h1
        rcases h.l2 with h2 | ⟨g2, h2, h3⟩
        · rw [h2] at ea; cases ea
        · rw [h2] at ea; cases ea
          have e3 : g2 = g := e2
          exact .inr ⟨g, e1, by omega⟩
      · exact .inr ⟨g, e1, by have := h.hB; have := h.blk.lt; omega⟩
  · rcases q9 with ⟨e1, _⟩ | ⟨g, e1, hg2⟩
    · rw [e1]; exact h.l3
    · exact .inr ⟨g, e1, by have := h.hB; have := h.blk.lt; omega⟩
  · rcases hq k h2 with h3 | h3
    · exact h.s02 k h1 h3
    · have := hlt0 k h1; omega
  · rcases hn3 k h2 with h3 | h3
    · exact h.s03 k h1 h3
    · have := hlt0 k h1; omega
  · rcases hn3 k h2 with h3 | h3
    · rcases hq k h1 with h4 | h4
      · exact h.s23 k h4 h3
      · have := hlt3 k h3; omega
    · have := hlt2 k h1; omega
  · rcases last _ _ _ _ hx with h1 | ⟨_, rfl⟩
    · obtain ⟨l, a1, a2⟩ := h.raws i x h1
      exact ⟨l, hk _ _ _ a1, a2⟩
    · exact ⟨l, hkb _ _ _ hs, hsl⟩
  · rcases last _ _ _ _ hx with h1 | ⟨_, rfl⟩
    · obtain ⟨l, a1, a2⟩ := h.was i x h1
      exact ⟨l, hk _ _ _ a1, a2⟩
    · exact ⟨l, hkb _ _ _ ht, htl⟩
  · rw [List.length_append, List.length_append, h.rlen]; rfl
  · rcases last _ _ _ _ hx with h1 | ⟨e1, rfl⟩
    · rcases last _ _ _ _ hy with h2 | ⟨e2, _⟩
      · obtain ⟨l, a1, a2, a3, a4⟩ := h.like rfl i x y h1 h2
        obtain ⟨l1, b1, _⟩ := h.raws i x h1
        obtain ⟨l2, b2, _⟩ := h.was i y h2
        refine ⟨l, a1.keep fun ad e hlt => hCw.far _ hlt fun i hf => ?_, a2.keep fun ad e hlt => hCw.far _ hlt fun i hf => ?_, a3, a4⟩
        · obtain ⟨cs2, hb2⟩ := b1.blk e
          rcases hf with hf | hf | hf
          · exact blk_type_ne hb2 h.blk (by decide) hf
          · obtain ⟨cs, hb3⟩ := g_blk h.g2 hf
            exact blk_type_ne hb3 hb2 (by decide) rfl
          · obtain ⟨cs, hb3⟩ := g_blk h.g3 hf
            exact blk_type_ne hb3 hb2 (by decide) rfl
        · obtain ⟨cs2, hb2⟩ := b2.blk e
          rcases hf with hf | hf | hf
          · exact blk_type_ne hb2 h.blk (by decide) hf
          · obtain ⟨cs, hb3⟩ := g_blk h.g2 hf
            exact blk_type_ne hb3 hb2 (by decide) rfl
          · obtain ⟨cs, hb3⟩ := g_blk h.g3 hf
            exact blk_type_ne hb3 hb2 (by decide) rfl
      · have := (List.getElem?_eq_some_iff.1 h1).1
        have := h.rlen
        omega
    · rcases last _ _ _ _ hy with h2 | ⟨_, rfl⟩
      · have := (List.getElem?_eq_some_iff.1 h2).1
        have := h.rlen
        omega
      · exact ⟨l, (hkb _ _ _ hs).kept.1, (hkb _ _ _ ht).kept.1, hsl, htl⟩
end
set_option maxRecDepth 20000 in
set_option maxHeartbeats 16000000 in
theorem keepL_any (base B rn n c : Nat) (A A0 A2 A3 : Option Addr) (c0 c2 c3 : Nat) (Ls Rw Ws : List SV) (l : List Int) (w : World) (h : BkS base w B true A0 A2 A3 c0 c2 c3 Ls Rw Ws) (hrn : Rw.length = rn) (hrb : rn ≤ 1000000000000) (hK : KO w A c l) (hn : l.length = n) (hnb : n ≤ 7000000000000) :
    Calls Try.prog 42 #[.pointer (some ⟨B, 0, none⟩), .slice A n c] w fun e w' => e = .returned (.tuple #[]) ∧ ∃ (A2' A3' : Option Addr) (c2' c3' : Nat) (Aw : Option Addr) (cw : Nat), BkS base w' B true A0 A2' A3' c0 c2' c3' Ls (Rw ++ [(A, n, c)]) (Ws ++ [(Aw, n, cw)]) ∧ Chg (fun k _ => k = B ∨ blkOf A2 k ∨ blkOf A3 k) w w' ∧ (∀ k, blkOf Aw k → w.heap.size ≤ k) := by
  have H := Lib.hid h
  have b1 : w.cell? ⟨B, 1, none⟩ = some (.bool true) := h.blk.cell 1
  have b2 : w.cell? ⟨B, 2, none⟩ = some (.slice A2 rn c2) := by rw [← hrn]; exact h.blk.cell 2
  have HRN := Lib.hid hrn
  have HWN := Lib.hid (h.rlen.symm.trans hrn)
  have HK := Lib.hid hK
  have HN := Lib.hid hn
  have Ga := Lib.hid (h.g2.chg (Chg.alloc (fun _ _ => False) w (.cells #[.slice A n c] 29)) encS_len fun _ _ _ h => h)
  have Rn := Lib.hid (show RdS encS 1 (w.alloc (.cells #[.slice A n c] 29)) (some ⟨w.heap.size, 0, none⟩) [(A, n, c)] from RdS.new1 encS 1 w 29 (A, n, c))
  clear h hrn hK hn
  go_enter Try.func42, Try.ntmps42
  go_upto_region 2 with (
    at_builtin
    refine wpList_appendG sTy (by decide) encS_len encS_one rfl (.tmp 16) (.tmp 18) rfl A2 c2 Rw (by rw [HRN.out]; rfl) Ga.out (some ⟨w.heap.size, 0, none⟩) 1 [(A, n, c)] rfl Rn.out (by rw [HRN.out]; simp only [maxLen, List.length_singleton]; omega) (by rw [HRN.out]; simp only [List.length_singleton]; omega) ?_
    intro A6 c6 w8 h8 k8 q8
    have hlen8 : (Rw ++ [(A, n, c)]).length = rn + 1 := by rw [List.length_append, HRN.out]; rfl
    have Ba := H.out.below ((Below.refl w.heap.size w).alloc (Nat.le_refl _) (.cells #[.slice A n c] 29))
    obtain ⟨P1, P2, P3, P4, P5, P6⟩ := Ba.late1 h8 k8 q8
    have hl2 := Lib.hid (show A6 = none ∨ ∃ g, A6 = some ⟨g, 0, none⟩ from by
      rcases q8 with ⟨e1, _⟩ | ⟨g, e1, _⟩
      · rw [e1]; exact H.out.l2.imp id fun ⟨g, e, _⟩ => ⟨g, e⟩
      · exact .inr ⟨g, e1⟩)
    rw [hlen8] at P1 P2 P3 ⊢
    rw [HRN.out] at P5
    have M1 := Lib.hid P1
    have M2 := Lib.hid P2
    have M3 := Lib.hid ((Chg.alloc (fun k _ => k = B ∨ blkOf A2 k) w (.cells #[.slice A n c] 29)).trans P3 fun _ _ _ h => h)
    have M4 := Lib.hid (show ∀ k, blkOf A6 k → blkOf A2 k ∨ w.heap.size ≤ k from fun k hk => (P4 k hk).imp id fun h => Nat.le_trans (by simp) h)
    have HL8 := Lib.hid hlen8
    clear h8 k8 q8 hlen8 Ba P1 P2 P3 P4
    )
  obtain ⟨v, hv⟩ : ∃ v, v = w8.setCell ⟨B, 2, none⟩ (.slice A6 (rn + 1) c6) := ⟨_, rfl⟩
  rw [← hv] at M1 M2 M3 ⊢
  clear hv P5 P6 b1 b2
  have KV := Lib.hid (HK.out.chg M3.out fun ad e _ hf => by
    obtain ⟨cs, hb⟩ := HK.out.blk e
    rcases hf with hf | hf
    · exact blk_type_ne hb H.out.blk (by decide) hf
    · obtain ⟨cs2, hb2⟩ := g_blk H.out.g2 hf
      exact blk_type_ne hb hb2 (by decide) rfl)
  have hvB := M1.out.lt
  have cb : ∀ u, Below v.heap.size v u → u.cell? ⟨B, 3, none⟩ = some (.slice A3 rn c3) := fun u hu => by
    have := (M1.out.below hu hvB).cell 3
    rw [← HWN.out]
    exact this
  have CB := Lib.hid cb
  have BE := Lib.hid (show Below v.heap.size v (v.alloc (.cells #[] 3)).drew from ((Below.refl v.heap.size v).alloc (Nat.le_refl _) _).drew)
  have cb0 := CB.out v.drew (Below.refl _ _).drew
  have cb1 := CB.out _ BE.out
  have GE := Lib.hid (show GSl enc1 1 3 (v.alloc (.cells #[] 3)).drew (some ⟨v.heap.size, 0, none⟩) 0 [] from (GSl.empty enc1 1 3 v))
  have RE := Lib.hid (show RdS enc1 1 (v.alloc (.cells #[] 3)).drew A l from (KV.out.below BE.out).1.rds)
  have W0 : Chg (fun k _ => k = B ∨ blkOf A2 k) w v := M3.out
  have GV := Lib.hid (show GSl encS 1 29 v A3 c3 Ws from H.out.g3.chg M3.out encS_len fun g i hs hf => by
    obtain ⟨o, e, _⟩ := hs
    rcases hf with hf | hf
    · obtain ⟨cs, hb⟩ := g_blk H.out.g3 ⟨_, e, rfl⟩
      exact blk_type_ne hb H.out.blk (by decide) hf
    · exact H.out.s23 g hf ⟨_, e, rfl⟩)
  have hsv : w.heap.size ≤ v.heap.size := M3.out.size
  clear cb W0 Ga Rn
  refine wp_region_noPanic ?_
  refine wp_region_held_drew (S := fun w' => True) (by kernel_rfl) (trivial) (fun hHeld => ?_)
  refine take_on (i := 0) (some 22) (v := ?vr1) rfl rfl (by kernel_rfl) (by kernel_rfl) (by kernel_rfl) (fun _ _ _ h => h) (by rfl) ?hyr1 (by with_reducible exact hHeld) ?restr1
  case hyr1 => (intro wS hSw; (try dsimp only at hSw); go_simp; try with_reducible rfl)
  try simp only [Act.put, List.setIfInBounds_toArray, List.set_cons_zero, List.set_cons_succ]
  refine take_on (i := 1) (some 23) (v := ?vr2) rfl rfl (by kernel_rfl) (by kernel_rfl) (by kernel_rfl) (fun _ _ _ h => h) (by rfl) ?hyr2 (by with_reducible exact hHeld) ?restr2
  case hyr2 => (intro wS hSw; (try dsimp only at hSw); go_simp; try with_reducible rfl)
  try simp only [Act.put, List.setIfInBounds_toArray, List.set_cons_zero, List.set_cons_succ]
  refine take_on (i := 2) (some 24) (v := ?vr3) rfl rfl (by kernel_rfl) (by kernel_rfl) (by kernel_rfl) (fun _ _ _ h => h) (by rfl) ?hyr3 (by with_reducible exact hHeld) ?restr3
  case hyr3 => (intro wS hSw; (try dsimp only at hSw); go_simp; try with_reducible rfl)
  try simp only [Act.put, List.setIfInBounds_toArray, List.set_cons_zero, List.set_cons_succ]
  refine take_on (i := 3) (some 25) (v := ?vr4) rfl rfl (by kernel_rfl) (by kernel_rfl) (by kernel_rfl) (fun _ _ _ h => h) (by rfl) ?hyr4 (by with_reducible exact hHeld) ?restr4
  case hyr4 => (intro wS hSw; (try dsimp only at hSw); go_simp; try with_reducible rfl)
  try simp only [Act.put, List.setIfInBounds_toArray, List.set_cons_zero, List.set_cons_succ]
  refine take_on (i := 6) (some 28) (v := ?vr5) rfl rfl (by kernel_rfl) (by kernel_rfl) (by kernel_rfl) (fun _ _ _ h => h) (by rfl) ?hyr5 (by with_reducible exact hHeld) ?restr5
  case hyr5 => (intro wS hSw; (try dsimp only at hSw); go_simp; try with_reducible rfl)
  try simp only [Act.put, List.setIfInBounds_toArray, List.set_cons_zero, List.set_cons_succ]
  refine wpAnyH_ready (rs := [4, 5]) (by kernel_rfl) (by simp) ?_
  refine AllReadyH.cons rfl (fun K hK => ?_) ?_
  · go_simp
    refine hK.out _ _ trivial (fun hHeld => ?_)
    clear hK K
    try simp only [Act.put, List.setIfInBounds_toArray, List.set_cons_zero, List.set_cons_succ]
    refine wpAnyH_ready (rs := [5]) (by kernel_rfl) (by simp) ?_
    refine AllReadyH.cons rfl (fun K hK => ?_) AllReadyH.nil
    go_simp
    refine hK.out _ _ trivial (fun hHeld => ?_)
    clear hK K
    try simp only [Act.put, List.setIfInBounds_toArray, List.set_cons_zero, List.set_cons_succ]
    refine wpAnyH_ready (rs := [7]) (by kernel_rfl) (by simp) ?_
    refine AllReadyH.cons rfl (fun K hK => ?_) AllReadyH.nil
    refine step_appendG intTy (by decide) enc1_len enc1_one (by rfl) (.tmp 27) (.tmp 28) (by rfl) (some ⟨v.heap.size, 0, none⟩) 0 [] (by rfl) GE.out A c l (by rw [HN.out]; rfl) RE.out (by rw [HN.out]; simp only [maxLen, List.length_nil]; omega) (by rw [HN.out]; simp only [List.length_nil]; omega) ?_
    intro Aw cw wc h7 k7 q7
    rw [List.nil_append] at h7 ⊢
    rw [HN.out]
    have BC := Lib.hid (show Below v.heap.size v wc from BE.out.trans (k7.below (by simp [World.drew]) fun k i _ hf => by
        obtain ⟨o, _, h3, h4⟩ := hf
        simp at h3 h4
        omega))
    have KC := Lib.hid (show KO wc Aw cw l from ⟨h7, by
        rcases q7 with ⟨e1, _⟩ | ⟨g, e1, _⟩
        · exact .inr ⟨_, e1⟩
        · exact .inr ⟨g, e1⟩⟩)
    have LC := Lib.hid (show ∀ k, blkOf Aw k → v.heap.size ≤ k from fun k hk => by
        obtain ⟨a, e, rfl⟩ := hk
        rcases q7 with ⟨e1, _⟩ | ⟨g, e1, hg⟩
        · rw [e1] at e; cases e; exact Nat.le_refl _
        · rw [e1] at e; cases e
          simp [World.drew] at hg
          show v.heap.size ≤ g
          omega)
    have cb2 := CB.out wc BC.out
    have BD := Lib.hid (BC.out.trans (((Below.refl wc.heap.size wc).alloc (Nat.le_refl _) (.cells #[.slice Aw n cw] 29)).mono BC.out.size))
    have cb3 := CB.out _ BD.out
    have GD := Lib.hid (GV.out.chg (Chg.of_below (fun _ _ => False) BD.out) encS_len fun _ _ _ h => h)
    have RD := Lib.hid (show RdS encS 1 (wc.alloc (.cells #[.slice Aw n cw] 29)) (some ⟨wc.heap.size, 0, none⟩) [(Aw, n, cw)] from RdS.new1 encS 1 wc 29 (Aw, n, cw))
    clear h7 k7 q7
    refine hK.out _ _ trivial (fun hHeld => ?_)
    clear hK K
    try simp only [Act.put, List.setIfInBounds_toArray, List.set_cons_zero, List.set_cons_succ]
    refine wpAnyH_ready (rs := [8]) (by kernel_rfl) (by simp) ?_
    refine AllReadyH.cons rfl (fun K hK => ?_) AllReadyH.nil
    go_simp
    refine hK.out _ _ trivial (fun hHeld => ?_)
    clear hK K
    try simp only [Act.put, List.setIfInBounds_toArray, List.set_cons_zero, List.set_cons_succ]
    refine wpAnyH_ready (rs := [9]) (by kernel_rfl) (by simp) ?_
    refine AllReadyH.cons rfl (fun K hK => ?_) AllReadyH.nil
    refine step_appendG sTy (by decide) encS_len encS_one (by rfl) (.tmp 26) (.tmp 30) (by rfl) A3 c3 Ws (by rw [HWN.out]; rfl) GD.out (some ⟨wc.heap.size, 0, none⟩) 1 [(Aw, n, cw)] (by rfl) RD.out (by rw [HWN.out]; simp only [maxLen, List.length_singleton]; omega) (by rw [HWN.out]; simp only [List.length_singleton]; omega) ?_
    intro A9 c9 w9 h9 k9 q9
    obtain ⟨P1, P2, P3, P4, P5⟩ := H.out.late2 M3.out (by rw [HL8.out]; exact M1.out) M2.out M4.out hl2.out BD.out (s := (A, n, c)) (t := (Aw, n, cw)) (KV.out.below BD.out) HN.out (KC.out.below ((Below.refl wc.heap.size wc).alloc (Nat.le_refl _) _)) HN.out h9 k9 q9
    have hlen9 : (Ws ++ [(Aw, n, cw)]).length = rn + 1 := by rw [List.length_append, HWN.out]; rfl
    rw [hlen9] at P1 P2 ⊢
    rw [HWN.out] at P4
    have Z1 := Lib.hid P1
    have Z2 := Lib.hid P2
    clear h9 k9 q9 P1 P2
    refine hK.out _ _ trivial (fun hHeld => ?_)
    clear hK K
    try simp only [Act.put, List.setIfInBounds_toArray, List.set_cons_zero, List.set_cons_succ]
    refine take_on (i := 10) (some 32) (v := ?vr6) rfl rfl (by kernel_rfl) (by kernel_rfl) (by kernel_rfl) (fun _ _ _ h => h) (by rfl) ?hyr6 (by with_reducible exact hHeld) ?restr6
    case hyr6 => (intro wS hSw; (try dsimp only at hSw); go_simp; try with_reducible rfl)
    try simp only [Act.put, List.setIfInBounds_toArray, List.set_cons_zero, List.set_cons_succ]
    refine take_on (i := 11) (some 33) (v := ?vr7) rfl rfl (by kernel_rfl) (by kernel_rfl) (by kernel_rfl) (fun _ _ _ h => h) (by rfl) ?hyr7 (by with_reducible exact hHeld) ?restr7
    case hyr7 => (intro wS hSw; (try dsimp only at hSw); go_simp; try with_reducible rfl)
    try simp only [Act.put, List.setIfInBounds_toArray, List.set_cons_zero, List.set_cons_succ]
    refine wpAnyH_ready (rs := [12]) (by kernel_rfl) (by simp) ?_
    refine AllReadyH.cons rfl (fun K hK => ?_) AllReadyH.nil
    go_simp
    refine hK.out _ _ (trivial) (fun hHeld => ?_)
    clear hK K
    try simp only [Act.put, List.setIfInBounds_toArray, List.set_cons_zero, List.set_cons_succ]
    refine wpAnyH_done (by kernel_rfl) ?_ _
    refine NoPanic.normal ?_
    go_wp2
    refine bodyPost_ret (results_none rfl _ _ _) rfl ?_
    exact ⟨rfl, A6, A9, c6, c9, Aw, cw, Z1.out, Z2.out, fun k hk => Nat.le_trans hsv (LC.out k hk)⟩
  · refine AllReadyH.cons rfl (fun K hK => ?_) AllReadyH.nil
    go_simp
    refine hK.out _ _ trivial (fun hHeld => ?_)
    clear hK K
    try simp only [Act.put, List.setIfInBounds_toArray, List.set_cons_zero, List.set_cons_succ]
    refine wpAnyH_ready (rs := [4, 7]) (by kernel_rfl) (by simp) ?_
    refine AllReadyH.cons rfl (fun K hK => ?_) ?_
    · go_simp
      refine hK.out _ _ trivial (fun hHeld => ?_)
      clear hK K
      try simp only [Act.put, List.setIfInBounds_toArray, List.set_cons_zero, List.set_cons_succ]
      refine wpAnyH_ready (rs := [7]) (by kernel_rfl) (by simp) ?_
      refine AllReadyH.cons rfl (fun K hK => ?_) AllReadyH.nil
      refine step_appendG intTy (by decide) enc1_len enc1_one (by rfl) (.tmp 27) (.tmp 28) (by rfl) (some ⟨v.heap.size, 0, none⟩) 0 [] (by rfl) GE.out A c l (by rw [HN.out]; rfl) RE.out (by rw [HN.out]; simp only [maxLen, List.length_nil]; omega) (by rw [HN.out]; simp only [List.length_nil]; omega) ?_
      intro Aw cw wc h7 k7 q7
      rw [List.nil_append] at h7 ⊢
      rw [HN.out]
      have BC := Lib.hid (show Below v.heap.size v wc from BE.out.trans (k7.below (by simp [World.drew]) fun k i _ hf => by
          obtain ⟨o, _, h3, h4⟩ := hf
          simp at h3 h4
          omega))
      have KC := Lib.hid (show KO wc Aw cw l from ⟨h7, by
          rcases q7 with ⟨e1, _⟩ | ⟨g, e1, _⟩
          · exact .inr ⟨_, e1⟩
          · exact .inr ⟨g, e1⟩⟩)
      have LC := Lib.hid (show ∀ k, blkOf Aw k → v.heap.size ≤ k from fun k hk => by
          obtain ⟨a, e, rfl⟩ := hk
          rcases q7 with ⟨e1, _⟩ | ⟨g, e1, hg⟩
          · rw [e1] at e; cases e; exact Nat.le_refl _
          · rw [e1] at e; cases e
            simp [World.drew] at hg
            show v.heap.size ≤ g
            omega)
      have cb2 := CB.out wc BC.out
      have BD := Lib.hid (BC.out.trans (((Below.refl wc.heap.size wc).alloc (Nat.le_refl _) (.cells #[.slice Aw n cw] 29)).mono BC.out.size))
      have cb3 := CB.out _ BD.out
      have GD := Lib.hid (GV.out.chg (Chg.of_below (fun _ _ => False) BD.out) encS_len fun _ _ _ h => h)
      have RD := Lib.hid (show RdS encS 1 (wc.alloc (.cells #[.slice Aw n cw] 29)) (some ⟨wc.heap.size, 0, none⟩) [(Aw, n, cw)] from RdS.new1 encS 1 wc 29 (Aw, n, cw))
      clear h7 k7 q7
      refine hK.out _ _ trivial (fun hHeld => ?_)
      clear hK K
      try simp only [Act.put, List.setIfInBounds_toArray, List.set_cons_zero, List.set_cons_succ]
      refine wpAnyH_ready (rs := [8]) (by kernel_rfl) (by simp) ?_
      refine AllReadyH.cons rfl (fun K hK => ?_) AllReadyH.nil
      go_simp
      refine hK.out _ _ trivial (fun hHeld => ?_)
      clear hK K
      try simp only [Act.put, List.setIfInBounds_toArray, List.set_cons_zero, List.set_cons_succ]
      refine wpAnyH_ready (rs := [9]) (by kernel_rfl) (by simp) ?_
      refine AllReadyH.cons rfl (fun K hK => ?_) AllReadyH.nil
      refine step_appendG sTy (by decide) encS_len encS_one (by rfl) (.tmp 26) (.tmp 30) (by rfl) A3 c3 Ws (by rw [HWN.out]; rfl) GD.out (some ⟨wc.heap.size, 0, none⟩) 1 [(Aw, n, cw)] (by rfl) RD.out (by rw [HWN.out]; simp only [maxLen, List.length_singleton]; omega) (by rw [HWN.out]; simp only [List.length_singleton]; omega) ?_
      intro A9 c9 w9 h9 k9 q9
      obtain ⟨P1, P2, P3, P4, P5⟩ := H.out.late2 M3.out (by rw [HL8.out]; exact M1.out) M2.out M4.out hl2.out BD.out (s := (A, n, c)) (t := (Aw, n, cw)) (KV.out.below BD.out) HN.out (KC.out.below ((Below.refl wc.heap.size wc).alloc (Nat.le_refl _) _)) HN.out h9 k9 q9
      have hlen9 : (Ws ++ [(Aw, n, cw)]).length = rn + 1 := by rw [List.length_append, HWN.out]; rfl
      rw [hlen9] at P1 P2 ⊢
      rw [HWN.out] at P4
      have Z1 := Lib.hid P1
      have Z2 := Lib.hid P2
      clear h9 k9 q9 P1 P2
      refine hK.out _ _ trivial (fun hHeld => ?_)
      clear hK K
      try simp only [Act.put, List.setIfInBounds_toArray, List.set_cons_zero, List.set_cons_succ]
      refine take_on (i := 10) (some 32) (v := ?vr8) rfl rfl (by kernel_rfl) (by kernel_rfl) (by kernel_rfl) (fun _ _ _ h => h) (by rfl) ?hyr8 (by with_reducible exact hHeld) ?restr8
      case hyr8 => (intro wS hSw; (try dsimp only at hSw); go_simp; try with_reducible rfl)
      try simp only [Act.put, List.setIfInBounds_toArray, List.set_cons_zero, List.set_cons_succ]
      refine take_on (i := 11) (some 33) (v := ?vr9) rfl rfl (by kernel_rfl) (by kernel_rfl) (by kernel_rfl) (fun _ _ _ h => h) (by rfl) ?hyr9 (by with_reducible exact hHeld) ?restr9
      case hyr9 => (intro wS hSw; (try dsimp only at hSw); go_simp; try with_reducible rfl)
      try simp only [Act.put, List.setIfInBounds_toArray, List.set_cons_zero, List.set_cons_succ]
      refine wpAnyH_ready (rs := [12]) (by kernel_rfl) (by simp) ?_
      refine AllReadyH.cons rfl (fun K hK => ?_) AllReadyH.nil
      go_simp
      refine hK.out _ _ (trivial) (fun hHeld => ?_)
      clear hK K
      try simp only [Act.put, List.setIfInBounds_toArray, List.set_cons_zero, List.set_cons_succ]
      refine wpAnyH_done (by kernel_rfl) ?_ _
      refine NoPanic.normal ?_
      go_wp2
      refine bodyPost_ret (results_none rfl _ _ _) rfl ?_
      exact ⟨rfl, A6, A9, c6, c9, Aw, cw, Z1.out, Z2.out, fun k hk => Nat.le_trans hsv (LC.out k hk)⟩
    · refine AllReadyH.cons rfl (fun K hK => ?_) AllReadyH.nil
      refine step_appendG intTy (by decide) enc1_len enc1_one (by rfl) (.tmp 27) (.tmp 28) (by rfl) (some ⟨v.heap.size, 0, none⟩) 0 [] (by rfl) GE.out A c l (by rw [HN.out]; rfl) RE.out (by rw [HN.out]; simp only [maxLen, List.length_nil]; omega) (by rw [HN.out]; simp only [List.length_nil]; omega) ?_
      intro Aw cw wc h7 k7 q7
      rw [List.nil_append] at h7 ⊢
      rw [HN.out]
      have BC := Lib.hid (show Below v.heap.size v wc from BE.out.trans (k7.below (by simp [World.drew]) fun k i _ hf => by
          obtain ⟨o, _, h3, h4⟩ := hf
          simp at h3 h4
          omega))
      have KC := Lib.hid (show KO wc Aw cw l from ⟨h7, by
          rcases q7 with ⟨e1, _⟩ | ⟨g, e1, _⟩
          · exact .inr ⟨_, e1⟩
          · exact .inr ⟨g, e1⟩⟩)
      have LC := Lib.hid (show ∀ k, blkOf Aw k → v.heap.size ≤ k from fun k hk => by
          obtain ⟨a, e, rfl⟩ := hk
          rcases q7 with ⟨e1, _⟩ | ⟨g, e1, hg⟩
          · rw [e1] at e; cases e; exact Nat.le_refl _
          · rw [e1] at e; cases e
            simp [World.drew] at hg
            show v.heap.size ≤ g
            omega)
      have cb2 := CB.out wc BC.out
      have BD := Lib.hid (BC.out.trans (((Below.refl wc.heap.size wc).alloc (Nat.le_refl _) (.cells #[.slice Aw n cw] 29)).mono BC.out.size))
      have cb3 := CB.out _ BD.out
      have GD := Lib.hid (GV.out.chg (Chg.of_below (fun _ _ => False) BD.out) encS_len fun _ _ _ h => h)
      have RD := Lib.hid (show RdS encS 1 (wc.alloc (.cells #[.slice Aw n cw] 29)) (some ⟨wc.heap.size, 0, none⟩) [(Aw, n, cw)] from RdS.new1 encS 1 wc 29 (Aw, n, cw))
      clear h7 k7 q7
      refine hK.out _ _ trivial (fun hHeld => ?_)
      clear hK K
      try simp only [Act.put, List.setIfInBounds_toArray, List.set_cons_zero, List.set_cons_succ]
      refine wpAnyH_ready (rs := [4, 8]) (by kernel_rfl) (by simp) ?_
      refine AllReadyH.cons rfl (fun K hK => ?_) ?_
      · go_simp
        refine hK.out _ _ trivial (fun hHeld => ?_)
        clear hK K
        try simp only [Act.put, List.setIfInBounds_toArray, List.set_cons_zero, List.set_cons_succ]
        refine wpAnyH_ready (rs := [8]) (by kernel_rfl) (by simp) ?_
        refine AllReadyH.cons rfl (fun K hK => ?_) AllReadyH.nil
        go_simp
        refine hK.out _ _ trivial (fun hHeld => ?_)
        clear hK K
        try simp only [Act.put, List.setIfInBounds_toArray, List.set_cons_zero, List.set_cons_succ]
        refine wpAnyH_ready (rs := [9]) (by kernel_rfl) (by simp) ?_
        refine AllReadyH.cons rfl (fun K hK => ?_) AllReadyH.nil
        refine step_appendG sTy (by decide) encS_len encS_one (by rfl) (.tmp 26) (.tmp 30) (by rfl) A3 c3 Ws (by rw [HWN.out]; rfl) GD.out (some ⟨wc.heap.size, 0, none⟩) 1 [(Aw, n, cw)] (by rfl) RD.out (by rw [HWN.out]; simp only [maxLen, List.length_singleton]; omega) (by rw [HWN.out]; simp only [List.length_singleton]; omega) ?_
        intro A9 c9 w9 h9 k9 q9
        obtain ⟨P1, P2, P3, P4, P5⟩ := H.out.late2 M3.out (by rw [HL8.out]; exact M1.out) M2.out M4.out hl2.out BD.out (s := (A, n, c)) (t := (Aw, n, cw)) (KV.out.below BD.out) HN.out (KC.out.below ((Below.refl wc.heap.size wc).alloc (Nat.le_refl _) _)) HN.out h9 k9 q9
        have hlen9 : (Ws ++ [(Aw, n, cw)]).length = rn + 1 := by rw [List.length_append, HWN.out]; rfl
        rw [hlen9] at P1 P2 ⊢
        rw [HWN.out] at P4
        have Z1 := Lib.hid P1
        have Z2 := Lib.hid P2
        clear h9 k9 q9 P1 P2
        refine hK.out _ _ trivial (fun hHeld => ?_)
        clear hK K
        try simp only [Act.put, List.setIfInBounds_toArray, List.set_cons_zero, List.set_cons_succ]
        refine take_on (i := 10) (some 32) (v := ?vr10) rfl rfl (by kernel_rfl) (by kernel_rfl) (by kernel_rfl) (fun _ _ _ h => h) (by rfl) ?hyr10 (by with_reducible exact hHeld) ?restr10
        case hyr10 => (intro wS hSw; (try dsimp only at hSw); go_simp; try with_reducible rfl)
        try simp only [Act.put, List.setIfInBounds_toArray, List.set_cons_zero, List.set_cons_succ]
        refine take_on (i := 11) (some 33) (v := ?vr11) rfl rfl (by kernel_rfl) (by kernel_rfl) (by kernel_rfl) (fun _ _ _ h => h) (by rfl) ?hyr11 (by with_reducible exact hHeld) ?restr11
        case hyr11 => (intro wS hSw; (try dsimp only at hSw); go_simp; try with_reducible rfl)
        try simp only [Act.put, List.setIfInBounds_toArray, List.set_cons_zero, List.set_cons_succ]
        refine wpAnyH_ready (rs := [12]) (by kernel_rfl) (by simp) ?_
        refine AllReadyH.cons rfl (fun K hK => ?_) AllReadyH.nil
        go_simp
        refine hK.out _ _ (trivial) (fun hHeld => ?_)
        clear hK K
        try simp only [Act.put, List.setIfInBounds_toArray, List.set_cons_zero, List.set_cons_succ]
        refine wpAnyH_done (by kernel_rfl) ?_ _
        refine NoPanic.normal ?_
        go_wp2
        refine bodyPost_ret (results_none rfl _ _ _) rfl ?_
        exact ⟨rfl, A6, A9, c6, c9, Aw, cw, Z1.out, Z2.out, fun k hk => Nat.le_trans hsv (LC.out k hk)⟩
      · refine AllReadyH.cons rfl (fun K hK => ?_) AllReadyH.nil
        go_simp
        refine hK.out _ _ trivial (fun hHeld => ?_)
        clear hK K
        try simp only [Act.put, List.setIfInBounds_toArray, List.set_cons_zero, List.set_cons_succ]
        refine wpAnyH_ready (rs := [4]) (by kernel_rfl) (by simp) ?_
        refine AllReadyH.cons rfl (fun K hK => ?_) AllReadyH.nil
        go_simp
        refine hK.out _ _ trivial (fun hHeld => ?_)
        clear hK K
        try simp only [Act.put, List.setIfInBounds_toArray, List.set_cons_zero, List.set_cons_succ]
        refine wpAnyH_ready (rs := [9]) (by kernel_rfl) (by simp) ?_
        refine AllReadyH.cons rfl (fun K hK => ?_) AllReadyH.nil
        refine step_appendG sTy (by decide) encS_len encS_one (by rfl) (.tmp 26) (.tmp 30) (by rfl) A3 c3 Ws (by rw [HWN.out]; rfl) GD.out (some ⟨wc.heap.size, 0, none⟩) 1 [(Aw, n, cw)] (by rfl) RD.out (by rw [HWN.out]; simp only [maxLen, List.length_singleton]; omega) (by rw [HWN.out]; simp only [List.length_singleton]; omega) ?_
        intro A9 c9 w9 h9 k9 q9
        obtain ⟨P1, P2, P3, P4, P5⟩ := H.out.late2 M3.out (by rw [HL8.out]; exact M1.out) M2.out M4.out hl2.out BD.out (s := (A, n, c)) (t := (Aw, n, cw)) (KV.out.below BD.out) HN.out (KC.out.below ((Below.refl wc.heap.size wc).alloc (Nat.le_refl _) _)) HN.out h9 k9 q9
        have hlen9 : (Ws ++ [(Aw, n, cw)]).length = rn + 1 := by rw [List.length_append, HWN.out]; rfl
        rw [hlen9] at P1 P2 ⊢
        rw [HWN.out] at P4
        have Z1 := Lib.hid P1
        have Z2 := Lib.hid P2
        clear h9 k9 q9 P1 P2
        refine hK.out _ _ trivial (fun hHeld => ?_)
        clear hK K
        try simp only [Act.put, List.setIfInBounds_toArray, List.set_cons_zero, List.set_cons_succ]
        refine take_on (i := 10) (some 32) (v := ?vr12) rfl rfl (by kernel_rfl) (by kernel_rfl) (by kernel_rfl) (fun _ _ _ h => h) (by rfl) ?hyr12 (by with_reducible exact hHeld) ?restr12
        case hyr12 => (intro wS hSw; (try dsimp only at hSw); go_simp; try with_reducible rfl)
        try simp only [Act.put, List.setIfInBounds_toArray, List.set_cons_zero, List.set_cons_succ]
        refine take_on (i := 11) (some 33) (v := ?vr13) rfl rfl (by kernel_rfl) (by kernel_rfl) (by kernel_rfl) (fun _ _ _ h => h) (by rfl) ?hyr13 (by with_reducible exact hHeld) ?restr13
        case hyr13 => (intro wS hSw; (try dsimp only at hSw); go_simp; try with_reducible rfl)
        try simp only [Act.put, List.setIfInBounds_toArray, List.set_cons_zero, List.set_cons_succ]
        refine wpAnyH_ready (rs := [12]) (by kernel_rfl) (by simp) ?_
        refine AllReadyH.cons rfl (fun K hK => ?_) AllReadyH.nil
        go_simp
        refine hK.out _ _ (trivial) (fun hHeld => ?_)
        clear hK K
        try simp only [Act.put, List.setIfInBounds_toArray, List.set_cons_zero, List.set_cons_succ]
        refine wpAnyH_done (by kernel_rfl) ?_ _
        refine NoPanic.normal ?_
        go_wp2
        refine bodyPost_ret (results_none rfl _ _ _) rfl ?_
        exact ⟨rfl, A6, A9, c6, c9, Aw, cw, Z1.out, Z2.out, fun k hk => Nat.le_trans hsv (LC.out k hk)⟩
end Go.Proofs.Ytkjbjfjgnponfaa
