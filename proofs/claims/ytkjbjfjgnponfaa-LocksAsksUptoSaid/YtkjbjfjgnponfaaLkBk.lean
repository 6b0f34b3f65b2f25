/- Package replicalaw09: the Book of lists that were handed out: kept, keep, by contract. -/
import Derived.Test.YtkjbjfjgnponfaaLkZd
namespace Go.Proofs.Ytkjbjfjgnponfaa
open Go.RowKit
set_option linter.unusedSimpArgs false
set_option linter.unusedVariables false
/-- a slice, as a value: its address, its length, its room -/
abbrev SV := Option Addr × Nat × Nat
def encS (s : SV) : List Value := [.slice s.1 s.2.1 s.2.2]
theorem encS_len (s : SV) : (encS s).length = 1 := rfl
theorem encS_one (s : SV) : ∀ v ∈ encS s, v.oneCell' = true := fun v hv => by obtain rfl := List.mem_singleton.1 hv; rfl
theorem sTy : SlTy Try.prog 55 29 1 24 := SlTy.mk' (z := .slice none 0 0) Try.underlying55 (by kernel_rfl) rfl
def mark (i : Nat) : Int := -1000000 - ((i : Int) - (i : Int) % 2)
def blkOf (A : Option Addr) (k : Nat) : Prop := ∃ a, A = some a ∧ a.block = k
/-- the Book in memory -/
structure BkS (base : Nat) (wr : World) (B : Nat) (late : Bool) (A0 A2 A3 : Option Addr) (c0 c2 c3 : Nat) (Ls Rw Ws : List SV) : Prop where
  blk : Blk wr B 57 #[.slice A0 Ls.length c0, .bool late, .slice A2 Rw.length c2, .slice A3 Ws.length c3]
  g0 : GSl encS 1 29 wr A0 c0 Ls
  g2 : GSl encS 1 29 wr A2 c2 Rw
  g3 : GSl encS 1 29 wr A3 c3 Ws
  l0 : A0 = none ∨ ∃ g, A0 = some ⟨g, 0, none⟩ ∧ base ≤ g
  l2 : A2 = none ∨ ∃ g, A2 = some ⟨g, 0, none⟩ ∧ base ≤ g
  l3 : A3 = none ∨ ∃ g, A3 = some ⟨g, 0, none⟩ ∧ base ≤ g
  s02 : ∀ k, blkOf A0 k → ¬ blkOf A2 k
  s03 : ∀ k, blkOf A0 k → ¬ blkOf A3 k
  s23 : ∀ k, blkOf A2 k → ¬ blkOf A3 k
  hB : base ≤ B
  lists : ∀ (i : Nat) (s : SV), Ls[i]? = some s → KO wr s.1 s.2.2 (List.replicate s.2.1 (mark i))
  raws : ∀ (i : Nat) (s : SV), Rw[i]? = some s → ∃ l, KO wr s.1 s.2.2 l ∧ l.length = s.2.1
  was : ∀ (i : Nat) (s : SV), Ws[i]? = some s → ∃ l, KO wr s.1 s.2.2 l ∧ l.length = s.2.1
  rlen : Rw.length = Ws.length
  like : late = true → ∀ (i : Nat) (s t : SV), Rw[i]? = some s → Ws[i]? = some t → ∃ l, Rd encI wr s.1 l ∧ Rd encI wr t.1 l ∧ l.length = s.2.1 ∧ l.length = t.2.1
/-- the Book's own blocks -/
def BkF (B : Nat) (A0 A2 A3 : Option Addr) (k : Nat) : Prop := k = B ∨ blkOf A0 k ∨ blkOf A2 k ∨ blkOf A3 k
theorem g_blk {wr : World} {A : Option Addr} {c : Nat} {l : List SV} {k : Nat} (h : GSl encS 1 29 wr A c l) (hk : blkOf A k) : ∃ cs, Blk wr k 29 cs := by
  obtain ⟨a, e, rfl⟩ := hk
  rcases h with ⟨h2, _⟩ | ⟨g2, o2, cs2, h2, _, _, h3, _⟩
  · rw [h2] at e; cases e
  · rw [h2] at e; cases e; exact ⟨cs2, h3⟩
section
variable {base B : Nat} {wr wr' : World} {late : Bool} {A0 A2 A3 : Option Addr} {c0 c2 c3 : Nat} {Ls Rw Ws : List SV}
theorem BkS.typ (h : BkS base wr B late A0 A2 A3 c0 c2 c3 Ls Rw Ws) {k : Nat} (hk : BkF B A0 A2 A3 k) : ∃ t cs, Blk wr k t cs ∧ (t = 57 ∨ t = 29) := by
  rcases hk with rfl | hk | hk | hk
  · exact ⟨_, _, h.blk, .inl rfl⟩
  · obtain ⟨cs, hb⟩ := g_blk h.g0 hk; exact ⟨_, cs, hb, .inr rfl⟩
  · obtain ⟨cs, hb⟩ := g_blk h.g2 hk; exact ⟨_, cs, hb, .inr rfl⟩
  · obtain ⟨cs, hb⟩ := g_blk h.g3 hk; exact ⟨_, cs, hb, .inr rfl⟩
/-- the Book and its lists stay: nothing of theirs is written -/
theorem BkS.keep {F : Nat → Nat → Prop} (h : BkS base wr B late A0 A2 A3 c0 c2 c3 Ls Rw Ws) (hc : Chg F wr wr') (hn : ∀ k t cs, Blk wr k t cs → (t = 57 ∨ t = 29 ∨ t = 3) → ∀ i, ¬ F k i) : BkS base wr' B late A0 A2 A3 c0 c2 c3 Ls Rw Ws := by
  have hg : ∀ (A : Option Addr) (c : Nat) (l : List SV), GSl encS 1 29 wr A c l → GSl encS 1 29 wr' A c l := fun A c l hg => hg.chg hc encS_len fun g i hs hf => by
    obtain ⟨o, e, _⟩ := hs
    obtain ⟨cs, hb⟩ := g_blk hg ⟨_, e, rfl⟩
    exact hn g _ cs hb (.inr (.inl rfl)) i hf
  have hk : ∀ (A : Option Addr) (c : Nat) (l : List Int), KO wr A c l → KO wr' A c l := fun A c l hk => hk.chg hc fun ad e i hf => by
    obtain ⟨cs, hb⟩ := hk.blk e
    exact hn _ _ cs hb (.inr (.inr rfl)) i hf
  refine ⟨hc.blk h.blk fun i hf => hn B _ _ h.blk (.inl rfl) i hf, hg _ _ _ h.g0, hg _ _ _ h.g2, hg _ _ _ h.g3, h.l0, h.l2, h.l3, h.s02, h.s03, h.s23, h.hB, fun i s hs => hk _ _ _ (h.lists i s hs), fun i s hs => ?_, fun i s hs => ?_, h.rlen, fun hl i s t hs ht => ?_⟩
  · obtain ⟨l, h1, h2⟩ := h.raws i s hs
    exact ⟨l, hk _ _ _ h1, h2⟩
  · obtain ⟨l, h1, h2⟩ := h.was i s hs
    exact ⟨l, hk _ _ _ h1, h2⟩
  · obtain ⟨l, h1, h2, h3, h4⟩ := h.like hl i s t hs ht
    obtain ⟨l1, k1, e1⟩ := h.raws i s hs
    obtain ⟨l2, k2, e2⟩ := h.was i t ht
    refine ⟨l, h1.keep fun ad e hlt => hc.far _ hlt fun i hf => ?_, h2.keep fun ad e hlt => hc.far _ hlt fun i hf => ?_, h3, h4⟩
    · obtain ⟨cs, hb⟩ := k1.blk e
      exact hn _ _ cs hb (.inr (.inr rfl)) i hf
    · obtain ⟨cs, hb⟩ := k2.blk e
      exact hn _ _ cs hb (.inr (.inr rfl)) i hf
theorem BkS.below (h : BkS base wr B late A0 A2 A3 c0 c2 c3 Ls Rw Ws) (hB : Below wr.heap.size wr wr') : BkS base wr' B late A0 A2 A3 c0 c2 c3 Ls Rw Ws := h.keep (Chg.of_below (fun _ _ => False) hB) fun _ _ _ _ _ _ h => h
end
theorem rd_len {w : World} {A : Option Addr} {l : List Int} {n : Nat} (h : l.length = n) : l.length = n := h
/-- same, of lists of any content -/
theorem same_any (A B : Option Addr) (c d n m : Nat) (l k : List Int) (w : World) (hl : l.length = n) (hk : k.length = m) (hn : n ≤ 9223372036854775807) (hm : m ≤ 9223372036854775807) (ha : Rd encI w A l) (hb : Rd encI w B k) :
    Calls Try.prog 19 #[.slice A n c, .slice B m d] w fun e w' => e = .returned (.bool (decide (l = k))) ∧ Below w.heap.size w w' := by
  by_cases hlk : l = k
  · subst hlk
    obtain rfl : n = m := hl.symm.trans hk
    rw [decide_eq_true rfl]
    exact same_yes A B c d n l w hl hn ha hb
  · rw [decide_eq_false hlk]
    by_cases hnm : n = m
    · subst hnm
      have HA := Lib.hid ha
      have HB := Lib.hid hb
      have HL := Lib.hid hl
      have HK := Lib.hid hk
      have HNE := Lib.hid hlk
      clear ha hb hl hk hlk
      go_enter Try.func19, Try.ntmps19
      go_wp2_with fail
      go_loopw [5] (fun i wr => ∃ j : Nat, j ≤ n ∧ i = .int .i64 (j : Int) ∧ Below w.heap.size w wr ∧ Hid (l.take j = k.take j)) (fun i _ => n - (intOf i).toNat)
      case atStart => exact ⟨0, Nat.zero_le _, rfl, Below.refl _ _, Lib.hid (by simp)⟩
      case round =>
        obtain ⟨j, hj, rfl, hBw, heq⟩ := hrel
        by_cases hlt : j < n
        · have hlt' : (j : Int) < (n : Int) := by omega
          obtain ⟨ad, x, hA, hx, hc⟩ := (HA.out.below hBw).at_ (show j < l.length by rw [HL.out]; exact hlt)
          obtain ⟨bd, y, hB, hy, hd⟩ := (HB.out.below hBw).at_ (show j < k.length by rw [HK.out]; exact hlt)
          subst hA
          subst hB
          have HBw := Lib.hid hBw
          have HX := Lib.hid hx
          have HY := Lib.hid hy
          clear hx hy hBw
          cases hxy : (x != y) with
          | true =>
            go_wp2_with fail
            go_quiet (fail)
            go_wp2
            go_ret
            exact ⟨rfl, below_drewN HBw.out _⟩
          | false =>
            have hxy2 : x = y := by simpa using hxy
            have hs := Lib.hid (show l.take (j + 1) = k.take (j + 1) by rw [List.take_add_one, List.take_add_one, HX.out, HY.out, heq.out, hxy2])
            clear hxy2
            go_wp2_with fail
            go_quiet (fail)
            go_wp2
            go_roundw
            case rel => exact ⟨j + 1, by omega, by go_num, below_drewN HBw.out _, hs⟩
            case measure => simp [intOf]; omega
        · obtain rfl : j = n := by omega
          have := heq.out
          rw [List.take_of_length_le (by rw [HL.out]; exact Nat.le_refl _), List.take_of_length_le (by rw [HK.out]; exact Nat.le_refl _)] at this
          exact absurd this HNE.out
    · have h1 : ((n : Int) != (m : Int)) = true := by rw [bne_iff_ne]; omega
      clear hl hk ha hb hlk
      go_enter Try.func19, Try.ntmps19
      go_wp2
      go_ret
      exact ⟨rfl, Below.refl _ _⟩
set_option maxRecDepth 20000 in
set_option maxHeartbeats 16000000 in
theorem kept_any (base B ln rn : Nat) (late : Bool) (A0 A2 A3 : Option Addr) (c0 c2 c3 : Nat) (Ls Rw Ws : List SV) (w : World) (h : BkS base w B late A0 A2 A3 c0 c2 c3 Ls Rw Ws) (hl : Ls.length = ln) (hr : Rw.length = rn) (hlb : ln ≤ 1000000000000) (hrb : rn ≤ 1000000000000) (hb : ∀ (i : Nat) (s : SV), Ls[i]? = some s → s.2.1 ≤ 8000000000000) (hb2 : ∀ (i : Nat) (s : SV), Rw[i]? = some s → s.2.1 ≤ 8000000000000) (hb3 : ∀ (i : Nat) (s : SV), Ws[i]? = some s → s.2.1 ≤ 8000000000000) :
    Calls Try.prog 62 #[.pointer (some ⟨B, 0, none⟩)] w fun e w' => e = .returned (.bool true) ∧ Below w.heap.size w w' := by
  have H := Lib.hid h
  have HL := Lib.hid hl
  have HR := Lib.hid hr
  have HW := Lib.hid (h.rlen.symm.trans hr)
  have HB1 := Lib.hid hb
  have HB2 := Lib.hid hb2
  have HB3 := Lib.hid hb3
  have hBlt := h.blk.lt
  clear h hl hr hb hb2 hb3
  have cells : ∀ v, BkS base v B late A0 A2 A3 c0 c2 c3 Ls Rw Ws → v.cell? ⟨B, 0, none⟩ = some (.slice A0 ln c0) ∧ v.cell? ⟨B, 1, none⟩ = some (.bool late) ∧ v.cell? ⟨B, 2, none⟩ = some (.slice A2 rn c2) ∧ v.cell? ⟨B, 3, none⟩ = some (.slice A3 rn c3) := fun v hv => by
    refine ⟨?_, hv.blk.cell 1, ?_, ?_⟩
    · rw [← HL.out]; exact hv.blk.cell 0
    · rw [← HR.out]; exact hv.blk.cell 2
    · have := hv.blk.cell 3
      rw [HW.out] at this
      exact this
  have CE := Lib.hid cells
  clear cells
  go_enter Try.func62, Try.ntmps62
  go_wp2_with fail
  go_loopw [3] (fun t3 wr => ∃ k : Nat, k ≤ rn ∧ t3 = .int .i64 (k : Int) ∧ Hid (Below w.heap.size w wr)) (fun t3 _ => rn - (intOf t3).toNat)
  case atStart => exact ⟨0, Nat.zero_le _, rfl, Lib.hid (Below.refl _ _)⟩
  case round =>
    obtain ⟨k, hk, rfl, hBw⟩ := hrel
    have H1 := Lib.hid (H.out.below hBw.out)
    obtain ⟨b0, b1, b2, b3⟩ := CE.out _ H1.out
    by_cases hlk : k < rn
    · have hlk' : (k : Int) < (rn : Int) := by omega
      obtain ⟨s, hs⟩ : ∃ s, Rw[k]? = some s := ⟨_, List.getElem?_eq_getElem (by rw [HR.out]; exact hlk)⟩
      obtain ⟨t, ht⟩ : ∃ t, Ws[k]? = some t := ⟨_, List.getElem?_eq_getElem (by rw [HW.out]; exact hlk)⟩
      obtain ⟨g2, o2, e2, _, hc2⟩ := H1.out.g2.rds k s hs
      obtain ⟨g3, o3, e3, _, hc3⟩ := H1.out.g3.rds k t ht
      have x2 : wr.cell? ⟨g2, o2 + k, none⟩ = some (.slice s.1 s.2.1 s.2.2) := by have := hc2 0 _ rfl; simpa using this
      have x3 : wr.cell? ⟨g3, o3 + k, none⟩ = some (.slice t.1 t.2.1 t.2.2) := by have := hc3 0 _ rfl; simpa using this
      subst e2
      subst e3
      obtain ⟨la, ka, ea⟩ := H1.out.raws k s hs
      obtain ⟨lb, kb, eb⟩ := H1.out.was k t ht
      have gs := same_any s.1 t.1 s.2.2 t.2.2 s.2.1 t.2.1 la lb wr.drew ea eb (by have := HB2.out k s hs; omega) (by have := HB3.out k t ht; omega) ka.kept.1.drew kb.kept.1.drew
      have hlike : late = true → decide (la = lb) = true := fun hlt => by
        obtain ⟨l, r1, r2, n1, n2⟩ := H1.out.like hlt k s t hs ht
        refine decide_eq_true ?_
        have key : ∀ (A : Option Addr) (p q : List Int), Rd encI wr A p → Rd encI wr A q → p.length = q.length → p = q := fun A p q hp hq he => by
          refine List.ext_getElem? fun i => ?_
          by_cases hi : i < p.length
          · have h1 := hp i p[i] (List.getElem?_eq_getElem hi)
            have h2 := hq i q[i] (List.getElem?_eq_getElem (by omega))
            obtain ⟨a1, e1, c1⟩ := h1
            obtain ⟨a2, e2, c2⟩ := h2
            rw [e1] at e2
            cases e2
            rw [c1] at c2
            have e3 : p[i] = q[i] := by
              have e4 := Option.some.inj c2
              injection e4
            rw [List.getElem?_eq_getElem hi, List.getElem?_eq_getElem (by omega), e3]
          · rw [List.getElem?_eq_none (by omega), List.getElem?_eq_none (by omega)]
        rw [key s.1 la l ka.kept.1 r1 (by omega), key t.1 lb l kb.kept.1 r2 (by omega)]
      obtain ⟨sb, hsb⟩ : ∃ sb, sb = decide (la = lb) := ⟨_, rfl⟩
      rw [← hsb] at hlike
      rw [← hsb] at gs
      have GS := Lib.hid gs
      obtain ⟨sA, sn, sc⟩ := s
      obtain ⟨tA, tn, tc⟩ := t
      dsimp only at x2 x3
      have HLK := Lib.hid hlike
      clear hs ht hc2 hc3 ka kb ea eb gs hlike hsb b0
      go_wp2_with fail
      have hg2l : g2 < wr.heap.size := World.block_lt_of_cell? wr ⟨g2, o2 + k, none⟩ x2
      have hg3l : g3 < wr.heap.size := World.block_lt_of_cell? wr ⟨g3, o3 + k, none⟩ x3
      have HX := Lib.hid (show wr.drew.cell? ⟨B, 2, none⟩ = some (.slice (some ⟨g2, o2, none⟩) rn c2) ∧ wr.drew.cell? ⟨B, 3, none⟩ = some (.slice (some ⟨g3, o3, none⟩) rn c3) ∧ wr.drew.cell? ⟨g2, o2 + k, none⟩ = some (.slice sA sn sc) ∧ wr.drew.cell? ⟨g3, o3 + k, none⟩ = some (.slice tA tn tc) from ⟨b2, b3, x2, x3⟩)
      have hB2 : B < wr.heap.size := Nat.lt_of_lt_of_le hBlt hBw.out.size
      refine wp_region_noPanic ?_
      refine wp_region_held_drew (S := fun w' => w'.cell? ⟨B, 2, none⟩ = some (.slice (some ⟨g2, o2, none⟩) rn c2) ∧ w'.cell? ⟨B, 3, none⟩ = some (.slice (some ⟨g3, o3, none⟩) rn c3) ∧ w'.cell? ⟨g2, o2 + k, none⟩ = some (.slice sA sn sc) ∧ w'.cell? ⟨g3, o3 + k, none⟩ = some (.slice tA tn tc)) (by kernel_rfl) (HX.out) (fun hHeld => ?_)
      refine take_on (i := 0) (some 17) (v := ?vr1) rfl rfl (by kernel_rfl) (by kernel_rfl) (by kernel_rfl) (fun _ _ _ h => h) (by rfl) ?hyr1 (by with_reducible exact hHeld) ?restr1
      case hyr1 => (intro wS hSw; (try dsimp only at hSw); go_simp; try with_reducible rfl)
      try simp only [Act.put, List.setIfInBounds_toArray, List.set_cons_zero, List.set_cons_succ]
      refine take_on (i := 1) (some 18) (v := ?vr2) rfl rfl (by kernel_rfl) (by kernel_rfl) (by kernel_rfl) (fun _ _ _ h => h) (by rfl) ?hyr2 (by with_reducible exact hHeld) ?restr2
      case hyr2 => (intro wS hSw; (try dsimp only at hSw); go_simp; try with_reducible rfl)
      try simp only [Act.put, List.setIfInBounds_toArray, List.set_cons_zero, List.set_cons_succ]
      refine take_on (i := 2) (some 19) (v := ?vr3) rfl rfl (by kernel_rfl) (by kernel_rfl) (by kernel_rfl) (fun _ _ _ h => h) (by rfl) ?hyr3 (by with_reducible exact hHeld) ?restr3
      case hyr3 => (intro wS hSw; (try dsimp only at hSw); go_simp; try with_reducible rfl)
      try simp only [Act.put, List.setIfInBounds_toArray, List.set_cons_zero, List.set_cons_succ]
      refine take_on (i := 3) (some 20) (v := ?vr4) rfl rfl (by kernel_rfl) (by kernel_rfl) (by kernel_rfl) (fun _ _ _ h => h) (by rfl) ?hyr4 (by with_reducible exact hHeld) ?restr4
      case hyr4 => (intro wS hSw; (try dsimp only at hSw); go_simp; try with_reducible rfl)
      try simp only [Act.put, List.setIfInBounds_toArray, List.set_cons_zero, List.set_cons_succ]
      refine take_on (i := 4) (some 21) (v := ?vr5) rfl rfl (by kernel_rfl) (by kernel_rfl) (by kernel_rfl) (fun _ _ _ h => h) (by rfl) ?hyr5 (by with_reducible exact hHeld) ?restr5
      case hyr5 => (intro wS hSw; (try dsimp only at hSw); go_simp; try with_reducible rfl)
      try simp only [Act.put, List.setIfInBounds_toArray, List.set_cons_zero, List.set_cons_succ]
      refine take_on (i := 5) (some 22) (v := ?vr6) rfl rfl (by kernel_rfl) (by kernel_rfl) (by kernel_rfl) (fun _ _ _ h => h) (by rfl) ?hyr6 (by with_reducible exact hHeld) ?restr6
      case hyr6 => (intro wS hSw; (try dsimp only at hSw); go_simp; try with_reducible rfl)
      try simp only [Act.put, List.setIfInBounds_toArray, List.set_cons_zero, List.set_cons_succ]
      refine take_on (i := 6) (some 23) (v := ?vr7) rfl rfl (by kernel_rfl) (by kernel_rfl) (by kernel_rfl) (fun _ _ _ h => h) (by rfl) ?hyr7 (by with_reducible exact hHeld) ?restr7
      case hyr7 => (intro wS hSw; (try dsimp only at hSw); go_simp; try with_reducible rfl)
      try simp only [Act.put, List.setIfInBounds_toArray, List.set_cons_zero, List.set_cons_succ]
      refine take_on (i := 7) (some 24) (v := ?vr8) rfl rfl (by kernel_rfl) (by kernel_rfl) (by kernel_rfl) (fun _ _ _ h => h) (by rfl) ?hyr8 (by with_reducible exact hHeld) ?restr8
      case hyr8 => (intro wS hSw; (try dsimp only at hSw); go_simp; try with_reducible rfl)
      try simp only [Act.put, List.setIfInBounds_toArray, List.set_cons_zero, List.set_cons_succ]
      refine take_on (i := 8) (some 25) (v := ?vr9) rfl rfl (by kernel_rfl) (by kernel_rfl) (by kernel_rfl) (fun _ _ _ h => h) (by rfl) ?hyr9 (by with_reducible exact hHeld) ?restr9
      case hyr9 => (intro wS hSw; (try dsimp only at hSw); go_simp; try with_reducible rfl)
      try simp only [Act.put, List.setIfInBounds_toArray, List.set_cons_zero, List.set_cons_succ]
      refine take_on (i := 9) (some 26) (v := ?vr10) rfl rfl (by kernel_rfl) (by kernel_rfl) (by kernel_rfl) (fun _ _ _ h => h) (by rfl) ?hyr10 (by with_reducible exact hHeld) ?restr10
      case hyr10 => (intro wS hSw; (try dsimp only at hSw); go_simp; try with_reducible rfl)
      try simp only [Act.put, List.setIfInBounds_toArray, List.set_cons_zero, List.set_cons_succ]
      refine take_on (i := 10) (some 27) (v := ?vr11) rfl rfl (by kernel_rfl) (by kernel_rfl) (by kernel_rfl) (fun _ _ _ h => h) (by rfl) ?hyr11 (by with_reducible exact hHeld) ?restr11
      case hyr11 => (intro wS hSw; (try dsimp only at hSw); go_simp; try with_reducible rfl)
      try simp only [Act.put, List.setIfInBounds_toArray, List.set_cons_zero, List.set_cons_succ]
      refine take_on (i := 11) (some 28) (v := ?vr12) rfl rfl (by kernel_rfl) (by kernel_rfl) (by kernel_rfl) (fun _ _ _ h => h) (by rfl) ?hyr12 (by with_reducible exact hHeld) ?restr12
      case hyr12 => (intro wS hSw; (try dsimp only at hSw); go_simp; try with_reducible rfl)
      try simp only [Act.put, List.setIfInBounds_toArray, List.set_cons_zero, List.set_cons_succ]
      refine take_on (i := 12) (some 29) (v := ?vr13) rfl rfl (by kernel_rfl) (by kernel_rfl) (by kernel_rfl) (fun _ _ _ h => h) (by rfl) ?hyr13 (by with_reducible exact hHeld) ?restr13
      case hyr13 => (intro wS hSw; (try dsimp only at hSw); go_simp; try with_reducible rfl)
      try simp only [Act.put, List.setIfInBounds_toArray, List.set_cons_zero, List.set_cons_succ]
      refine take_on (i := 13) (some 30) (v := ?vr14) rfl rfl (by kernel_rfl) (by kernel_rfl) (by kernel_rfl) (fun _ _ _ h => h) (by rfl) ?hyr14 (by with_reducible exact hHeld) ?restr14
      case hyr14 => (intro wS hSw; (try dsimp only at hSw); go_simp; try with_reducible rfl)
      try simp only [Act.put, List.setIfInBounds_toArray, List.set_cons_zero, List.set_cons_succ]
      refine wpAnyH_ready (rs := [14]) (by kernel_rfl) (by simp) ?_
      refine AllReadyH.cons rfl (fun K hK => ?_) AllReadyH.nil
      go_simp
      with_reducible refine GS.out.mono ?_
      rintro e w5 ⟨rfl, hB5⟩
      have HX5 := Lib.hid (show w5.cell? ⟨B, 2, none⟩ = some (.slice (some ⟨g2, o2, none⟩) rn c2) ∧ w5.cell? ⟨B, 3, none⟩ = some (.slice (some ⟨g3, o3, none⟩) rn c3) ∧ w5.cell? ⟨g2, o2 + k, none⟩ = some (.slice sA sn sc) ∧ w5.cell? ⟨g3, o3 + k, none⟩ = some (.slice tA tn tc) from ⟨(hB5.cell (p := ⟨B, 2, none⟩) hB2).trans HX.out.1, (hB5.cell (p := ⟨B, 3, none⟩) hB2).trans HX.out.2.1, (hB5.cell (p := ⟨g2, o2 + k, none⟩) hg2l).trans HX.out.2.2.1, (hB5.cell (p := ⟨g3, o3 + k, none⟩) hg3l).trans HX.out.2.2.2⟩)
      have BW5 := Lib.hid (hBw.out.trans ((show Below wr.heap.size wr w5 from ((Below.refl wr.heap.size wr).drew).trans hB5).mono hBw.out.size))
      have c1' : w5.cell? ⟨B, 1, none⟩ = some (.bool late) := (hB5.cell (p := ⟨B, 1, none⟩) hB2).trans b1
      clear GS hB5 b1 b2 b3 x2 x3
      refine hK.out _ _ (HX5.out) (fun hHeld => ?_)
      clear hK K
      try simp only [Act.put, List.setIfInBounds_toArray, List.set_cons_zero, List.set_cons_succ]
      refine take_on (i := 15) (some 4) (v := ?vr15) rfl rfl (by kernel_rfl) (by kernel_rfl) (by kernel_rfl) (fun _ _ _ h => h) (by rfl) ?hyr15 (by with_reducible exact hHeld) ?restr15
      case hyr15 => (intro wS hSw; (try dsimp only at hSw); go_simp; try with_reducible rfl)
      try simp only [Act.put, List.setIfInBounds_toArray, List.set_cons_zero, List.set_cons_succ]
      refine wpAnyH_done (by kernel_rfl) ?_ _
      refine NoPanic.normal ?_
      cases hlt : late with
      | false =>
        have b1 : w5.cell? ⟨B, 1, none⟩ = some (.bool false) := by rw [← hlt]; exact c1'
        clear hlt c1'
        go_wp2
        go_roundw
        case rel => exact ⟨k + 1, by omega, by go_num, BW5⟩
        case measure => simp [intOf]; omega
      | true =>
        obtain rfl : sb = true := HLK.out hlt
        have b1 : w5.cell? ⟨B, 1, none⟩ = some (.bool true) := by rw [← hlt]; exact c1'
        clear hlt c1'
        go_wp2
        go_roundw
        case rel => exact ⟨k + 1, by omega, by go_num, BW5⟩
        case measure => simp [intOf]; omega
    · obtain rfl : k = rn := by omega
      go_wp2_with fail
      go_loopw [5] (fun t5 wr => ∃ i : Nat, i ≤ ln ∧ t5 = .int .i64 (i : Int) ∧ Hid (Below w.heap.size w wr)) (fun t5 _ => ln - (intOf t5).toNat)
      case atStart => exact ⟨0, Nat.zero_le _, rfl, hBw⟩
      case round =>
        clear b0 b1 b2 b3 H1 hBw
        obtain ⟨i, hi, rfl, hBw⟩ := hrel
        have H1 := Lib.hid (H.out.below hBw.out)
        obtain ⟨b0, _, _, _⟩ := CE.out _ H1.out
        by_cases hli : i < ln
        · have hli' : (i : Int) < (ln : Int) := by omega
          obtain ⟨s, hs⟩ : ∃ s, Ls[i]? = some s := ⟨_, List.getElem?_eq_getElem (by rw [HL.out]; exact hli)⟩
          obtain ⟨g0, o0, e0, _, hc0⟩ := H1.out.g0.rds i s hs
          have x0 : wr.cell? ⟨g0, o0 + i, none⟩ = some (.slice s.1 s.2.1 s.2.2) := by have := hc0 0 _ rfl; simpa using this
          subst e0
          have hsn := HB1.out i s hs
          have KK := Lib.hid (H1.out.lists i s hs).kept.1
          obtain ⟨sA, sn, sc⟩ := s
          dsimp only at x0 hsn KK
          obtain ⟨mi, hmi⟩ : ∃ mi, mi = mark i := ⟨_, rfl⟩
          rw [← hmi] at KK
          have e1 : (-1000000 : Int) - ((i : Int) - (i : Int) % 2) = mi := by rw [hmi]; rfl
          have E1 := Lib.hid e1
          clear hs hc0 hmi e1
          go_wp2_with fail
          rw [E1.out]
          go_loopw [7] (fun t7 wr2 => ∃ j : Nat, j ≤ sn ∧ t7 = .int .i64 (j : Int) ∧ wr2 = wr) (fun t7 _ => sn - (intOf t7).toNat)
          case atStart => exact ⟨0, Nat.zero_le _, rfl, rfl⟩
          case round =>
            obtain ⟨j, hj, rfl, rfl⟩ := hrel
            by_cases hlj : j < sn
            · have hlj' : (j : Int) < (sn : Int) := by omega
              obtain ⟨ad, y, hA, hy, hc⟩ := KK.out.at_ (show j < (List.replicate sn mi).length by rw [List.length_replicate]; exact hlj)
              obtain rfl : mi = y := by
                rw [List.getElem?_replicate, if_pos hlj] at hy
                exact Option.some.inj hy
              subst hA
              have hne : (mi != mi) = false := by simp
              clear hy
              go_wp2
              go_roundw
              case rel => exact ⟨j + 1, by omega, by go_num, by first | rfl | trivial⟩
              case measure => simp [intOf]; omega
            · obtain rfl : j = sn := by omega
              go_wp2
              go_roundw
              case rel => exact ⟨i + 1, by omega, by go_num, hBw⟩
              case measure => simp [intOf]; omega
        · obtain rfl : i = ln := by omega
          go_wp2
          go_ret
          exact ⟨rfl, hBw.out⟩
end Go.Proofs.Ytkjbjfjgnponfaa
