/- Package replicalaw09: the Ledger in memory; has, out. -/
import Derived.Test.YtkjbjfjgnponfaaLkApart
namespace Go.Proofs.Ytkjbjfjgnponfaa
open Go.RowKit
set_option linter.unusedSimpArgs false
set_option linter.unusedVariables false
/-- a list of numbers in a block of its own, from anywhere in it -/
def OffI (w : World) (base : Nat) (v : Value) (l : List Int) : Prop := ∃ A c, v = .slice A l.length c ∧ GSl enc1 1 3 w A c l ∧ (A = none ∨ ∃ g o, A = some ⟨g, o, none⟩ ∧ base ≤ g)
theorem OffI.blk {w : World} {base g : Nat} {v : Value} {l : List Int} (h : OffI w base v l) (hg : v.ownBlock = some g) : base ≤ g ∧ ∃ cs, Blk w g 3 cs := by
  obtain ⟨A, c, rfl, hG, hA⟩ := h
  rcases hA with rfl | ⟨g', o, rfl, hb⟩
  · cases hg
  · cases hg
    rcases hG with ⟨h, _⟩ | ⟨g2, o, cs, e, _, _, h3, _⟩
    · cases h
    · cases e
      exact ⟨hb, cs, h3⟩
theorem OffI.nil_ (w : World) (base : Nat) : OffI w base (.slice none 0 0) [] := ⟨none, 0, rfl, GSl.nil_, .inl rfl⟩
theorem OffI.chg {w w' : World} {base : Nat} {v : Value} {l : List Int} {F : Nat → Nat → Prop} (h : OffI w base v l) (hc : Chg F w w') (hn : ∀ g, v.ownBlock = some g → ∀ i, ¬ F g i) : OffI w' base v l := by
  obtain ⟨A, c, rfl, hG, hA⟩ := h
  refine ⟨A, c, rfl, hG.chg hc enc1_len fun g i hs => ?_, hA⟩
  rcases hA with rfl | ⟨g', o, rfl, _⟩
  · obtain ⟨_, e, _⟩ := hs
    cases e
  · obtain ⟨_, e, _⟩ := hs
    cases e
    exact hn g rfl i
theorem OffI.below {w w' : World} {base : Nat} {v : Value} {l : List Int} (h : OffI w base v l) (hB : Below w.heap.size w w') : OffI w' base v l := h.chg (Chg.of_below (fun _ _ => False) hB) fun _ _ _ h => h
theorem OffI.of_own {w : World} {base : Nat} {v : Value} {l : List Int} (h : Own encI 3 w base v l) : OffI w base v l := by
  obtain ⟨A, c, e, hG, hA⟩ := OwnI.of_own h
  exact ⟨A, c, e, hG, hA.imp id fun ⟨g, h1, h2⟩ => ⟨g, 0, h1, h2⟩⟩
theorem OffI.lower {w : World} {b b' : Nat} {v : Value} {l : List Int} (h : OffI w b v l) (hb : b' ≤ b) : OffI w b' v l := by
  obtain ⟨A, c, e, hG, hA⟩ := h
  exact ⟨A, c, e, hG, hA.imp id fun ⟨g, o, h1, h2⟩ => ⟨g, o, h1, Nat.le_trans hb h2⟩⟩
/-- the Ledger in memory: its three slices V, its three lists L: Wait, Mode, Hold -/
structure LdS (base : Nat) (wr : World) (Q : Nat) (V : Nat → Value) (L : Nat → List Int) : Prop where
  blk : Blk wr Q 31 #[V 0, V 1, V 2]
  own : ∀ i, i < 3 → OffI wr base (V i) (L i)
  sep : ∀ i j, i < 3 → j < 3 → i ≠ j → Sep (V i) (V j)
  hQ : base ≤ Q
def LdF (Q : Nat) (V : Nat → Value) (k : Nat) : Prop := k = Q ∨ ∃ i, i < 3 ∧ (V i).ownBlock = some k
section
variable {base Q : Nat} {wr wr' : World} {V : Nat → Value} {L : Nat → List Int}
theorem LdS.typ (h : LdS base wr Q V L) {k : Nat} (hk : LdF Q V k) : base ≤ k ∧ ∃ t cs, Blk wr k t cs ∧ (t = 31 ∨ t = 3) := by
  rcases hk with rfl | ⟨i, hi, e⟩
  · exact ⟨h.hQ, _, _, h.blk, .inl rfl⟩
  · obtain ⟨hb, cs, h2⟩ := (h.own i hi).blk e
    exact ⟨hb, _, cs, h2, .inr rfl⟩
theorem LdS.lt (h : LdS base wr Q V L) {k : Nat} (hk : LdF Q V k) : base ≤ k ∧ k < wr.heap.size := by
  obtain ⟨hb, _, _, h2, _⟩ := h.typ hk
  exact ⟨hb, h2.lt⟩
theorem LdS.keep {F : Nat → Nat → Prop} (h : LdS base wr Q V L) (hc : Chg F wr wr') (hn : ∀ k, LdF Q V k → ∀ i, ¬ F k i) : LdS base wr' Q V L :=
  ⟨hc.blk h.blk (hn Q (.inl rfl)), fun i hi => (h.own i hi).chg hc fun g hg => hn g (.inr ⟨i, hi, hg⟩), h.sep, h.hQ⟩
theorem LdS.below (h : LdS base wr Q V L) (hB : Below wr.heap.size wr wr') : LdS base wr' Q V L := h.keep (Chg.of_below (fun _ _ => False) hB) fun _ _ _ h => h
theorem LdS.lower {b' : Nat} (h : LdS base wr Q V L) (hb : b' ≤ base) : LdS b' wr Q V L := ⟨h.blk, fun i hi => (h.own i hi).lower hb, h.sep, Nat.le_trans hb h.hQ⟩
/-- the Ledger and the table lie apart -/
theorem LdS.tab {b T E n : Nat} {s most wait : Int} {W : Nat → Value} {M : Nat → List Pl} (h : LdS base wr Q V L) (ht : TabS b wr T E n s most wait W M) {k : Nat} (hk : LdF Q V k) : ¬ Fp T E n W k := fun hf => by
  obtain ⟨_, t, cs, hb, hty⟩ := h.typ hk
  rcases hf with hf | hf | ⟨j, hj, hf⟩
  · exact blk_type_ne hb ht.tb (by rcases hty with rfl | rfl <;> decide) hf
  · exact blk_type_ne hb ht.ex (by rcases hty with rfl | rfl <;> decide) hf
  · obtain ⟨_, cs2, hb2⟩ := (ht.own j hj).blk hf
    exact blk_type_ne hb hb2 (by rcases hty with rfl | rfl <;> decide) rfl
theorem LdS.cell (h : LdS base wr Q V L) {i : Nat} (hi : i < 3) : wr.cell? ⟨Q, i, none⟩ = some (V i) := by
  rw [h.blk.cell]
  match i, hi with
  | 0, _ => rfl
  | 1, _ => rfl
  | 2, _ => rfl
/-- one list is changed and its slice written -/
theorem LdS.put {F : Nat → Nat → Prop} (h : LdS base wr Q V L) {i : Nat} {v : Value} {l : List Int} (hi : i < 3) (hc : Chg F wr wr') (hF : ∀ k j, F k j → (V i).ownBlock = some k) (ho : OffI wr' base v l) (hv : ∀ k, v.ownBlock = some k → (V i).ownBlock = some k ∨ wr.heap.size ≤ k) :
    LdS base (wr'.setCell ⟨Q, i, none⟩ v) Q (upd V i v) (upd L i l) := by
  have hqi : ∀ {w : World} {x : Value} {l : List Int}, Blk w Q 31 #[V 0, V 1, V 2] → OffI w base x l → x.ownBlock ≠ some Q := fun hb ho e => by
    obtain ⟨_, cs, h2⟩ := ho.blk e
    exact blk_type_ne h2 hb (by decide) rfl
  have hb1 := hc.blk h.blk fun j hf => hqi h.blk (h.own i hi) (hF _ _ hf)
  have hset : Chg (fun k _ => k = Q) wr' (wr'.setCell ⟨Q, i, none⟩ v) := Chg.setCell (fun k _ => k = Q) _ (show Q = Q from rfl) v
  refine ⟨?_, fun j hj => ?_, fun j k hj hk hjk => ?_, h.hQ⟩
  · have := hb1.set_ i v
    match i, hi with
    | 0, _ => exact this
    | 1, _ => exact this
    | 2, _ => exact this
  · by_cases e : j = i
    · subst e
      rw [upd_same, upd_same]
      exact ho.chg hset fun g hg _ e => hqi hb1 ho (by rw [hg, e])
    · rw [upd_ne _ _ e, upd_ne _ _ e]
      have ho1 : OffI wr' base (V j) (L j) := (h.own j hj).chg hc fun g hg _ hf => h.sep j i hj hi e g hg (hF _ _ hf)
      exact ho1.chg hset fun g hg _ e => hqi hb1 ho1 (by rw [hg, e])
  · have hns : ∀ j, j < 3 → j ≠ i → Sep v (V j) := fun j hj e k hk hk2 => by
      rcases hv k hk with h1 | h1
      · exact h.sep i j hi hj (fun e2 => e e2.symm) k h1 hk2
      · have := (h.lt (.inr ⟨j, hj, hk2⟩)).2; omega
    by_cases e : j = i
    · subst e
      rw [upd_same, upd_ne _ _ (fun e => hjk e.symm)]
      exact hns k hk fun e => hjk e.symm
    · rw [upd_ne _ _ e]
      by_cases e2 : k = i
      · subst e2
        rw [upd_same]
        exact (hns j hj e).symm
      · rw [upd_ne _ _ e2]
        exact h.sep j k hj hk hjk
end
theorem has_any (A : Option Addr) (c n : Nat) (l : List Int) (x : Int) (w : World) (hl : l.length = n) (hn : n ≤ 9223372036854775807) (h : Rd encI w A l) :
    Calls Try.prog 24 #[.slice A n c, .int .i64 x] w fun e w' => e = .returned (.bool (decide (x ∈ l))) ∧ w = w' := by
  have HR := Lib.hid h
  have HL := Lib.hid hl
  clear h hl
  go_enter Try.func24, Try.ntmps24
  go_wp2_with fail
  go_loopw [5] (fun t5 wr => ∃ k : Nat, k ≤ n ∧ t5 = .int .i64 (k : Int) ∧ wr = w ∧ Hid (x ∉ l.take k)) (fun t5 _ => n - (intOf t5).toNat)
  case atStart => exact ⟨0, Nat.zero_le _, rfl, rfl, Lib.hid (by simp)⟩
  case round =>
    obtain ⟨k, hk, rfl, rfl, hno⟩ := hrel
    by_cases hlk : k < n
    · have hlk' : (k : Int) < (n : Int) := by omega
      obtain ⟨ad, y, hA, hx, hc⟩ := HR.out.at_ (show k < l.length by rw [HL.out]; exact hlk)
      subst hA
      have HX := Lib.hid hx
      clear hx
      cases hb : (y == x) with
      | true =>
        have e : y = x := by rwa [beq_iff_eq] at hb
        have hin : decide (x ∈ l) = true := decide_eq_true (by rw [← e]; exact List.mem_of_getElem? HX.out)
        have HIN := Lib.hid hin
        clear hin e
        go_wp2
        go_ret
        exact ⟨by rw [HIN.out]; rfl, rfl⟩
      | false =>
        have e : y ≠ x := by rwa [beq_eq_false_iff_ne] at hb
        have h2 := Lib.hid (show x ∉ l.take (k + 1) by
          rw [List.take_add_one, HX.out]
          intro hm
          rcases List.mem_append.1 hm with h | h
          · exact hno.out h
          · simp at h; exact e h.symm)
        go_wp2
        go_roundw
        case rel => exact ⟨k + 1, by omega, by go_num, by first | rfl | trivial, h2⟩
        case measure => simp [intOf]; omega
    · obtain rfl : k = n := by omega
      have hin : decide (x ∈ l) = false := decide_eq_false fun hm => hno.out (by rwa [List.take_of_length_le (by rw [HL.out]; exact Nat.le_refl _)])
      have HIN := Lib.hid hin
      clear hin
      go_wp2
      go_ret
      exact ⟨by rw [HIN.out]; rfl, rfl⟩
/-- the lists of a row: owners, modes -/
def LdL (R : List Pl) (H : List Int) : Nat → List Int
  | 0 => R.map (·.1)
  | 1 => R.map (·.2)
  | _ => H
def rmP (R : List Pl) (o : Int) : List Pl := R.filter fun p => p.1 != o
def rmI (H : List Int) (o : Int) : List Int := H.filter (· != o)
theorem rmP_step {R : List Pl} {k : Nat} {p : Pl} (h : R[k]? = some p) (o : Int) : rmP (R.take (k + 1)) o = rmP (R.take k) o ++ (if p.1 != o then [p] else []) := by
  rw [rmP, List.take_add_one, h, List.filter_append]
  show _ ++ List.filter _ [p] = _
  rw [List.filter_cons]
  rfl
theorem rmI_step {R : List Int} {k : Nat} {p : Int} (h : R[k]? = some p) (o : Int) : rmI (R.take (k + 1)) o = rmI (R.take k) o ++ (if p != o then [p] else []) := by
  rw [rmI, List.take_add_one, h, List.filter_append]
  show _ ++ List.filter _ [p] = _
  rw [List.filter_cons]
  rfl
theorem OffI.rd {w : World} {base : Nat} {v : Value} {l : List Int} (h : OffI w base v l) : ∃ A c, v = .slice A l.length c ∧ Rd encI w A l := by
  obtain ⟨A, c, e, hG, _⟩ := h
  exact ⟨A, c, e, rd_of_g hG⟩
def tri (a b c : Value) : Nat → Value
  | 0 => a
  | 1 => b
  | _ => c
theorem LdS.mk3 {base Q : Nat} {wr : World} {x0 x1 x2 a b c : Value} {R : List Pl} {H : List Int} (hb : Blk wr Q 31 #[x0, x1, x2]) (h0 : OffI wr base a (R.map (·.1))) (h1 : OffI wr base b (R.map (·.2))) (h2 : OffI wr base c H) (s01 : Sep a b) (s02 : Sep c a) (s12 : Sep c b) (hQ : base ≤ Q) :
    LdS base (((wr.setCell ⟨Q, 0, none⟩ a).setCell ⟨Q, 1, none⟩ b).setCell ⟨Q, 2, none⟩ c) Q (tri a b c) (LdL R H) := by
  have hqi : ∀ {x : Value} {l : List Int}, OffI wr base x l → x.ownBlock ≠ some Q := fun ho e => by
    obtain ⟨_, cs, h2⟩ := ho.blk e
    exact blk_type_ne h2 hb (by decide) rfl
  have hc : Chg (fun k _ => k = Q) wr (((wr.setCell ⟨Q, 0, none⟩ a).setCell ⟨Q, 1, none⟩ b).setCell ⟨Q, 2, none⟩ c) :=
    ((Chg.setCell (fun k _ => k = Q) _ (show Q = Q from rfl) a).trans (Chg.setCell (fun k _ => k = Q) _ (show Q = Q from rfl) b) fun _ _ _ h => h).trans (Chg.setCell (fun k _ => k = Q) _ (show Q = Q from rfl) c) fun _ _ _ h => h
  refine ⟨((hb.set_ 0 a).set_ 1 b).set_ 2 c, fun i hi => ?_, fun i j hi hj hij => ?_, hQ⟩
  · match i, hi with
    | 0, _ => exact h0.chg hc fun g hg _ e => hqi h0 (by rw [hg, e])
    | 1, _ => exact h1.chg hc fun g hg _ e => hqi h1 (by rw [hg, e])
    | 2, _ => exact h2.chg hc fun g hg _ e => hqi h2 (by rw [hg, e])
  · match i, j, hi, hj, hij with
    | 0, 1, _, _, _ => exact s01
    | 1, 0, _, _, _ => exact s01.symm
    | 0, 2, _, _, _ => exact s02.symm
    | 2, 0, _, _, _ => exact s02
    | 1, 2, _, _, _ => exact s12.symm
    | 2, 1, _, _, _ => exact s12
    | 0, 0, _, _, h => exact absurd rfl h
    | 1, 1, _, _, h => exact absurd rfl h
    | 2, 2, _, _, h => exact absurd rfl h
theorem sep_grow {v v' u : Value} {m : Nat} (h : Sep v u) (hv : v'.ownBlock = v.ownBlock ∨ v'.ownBlock = some m) (hu : ∀ k, u.ownBlock = some k → k < m) : Sep v' u := fun k hk hk2 => by
  rcases hv with e | e
  · exact h k (e.symm.trans hk) hk2
  · rw [e] at hk
    cases hk
    exact absurd (hu _ hk2) (Nat.lt_irrefl _)
theorem sep_or {v u : Value} (h : Sep v u) : u.ownBlock = none ∨ u.ownBlock ≠ v.ownBlock := by
  cases hu : u.ownBlock with
  | none => exact .inl rfl
  | some k => exact .inr fun e => h k e.symm hu
set_option maxRecDepth 20000 in
set_option maxHeartbeats 8000000 in
theorem out_any (base Q rn hn : Nat) (owner : Int) (V : Nat → Value) (R : List Pl) (H : List Int) (w : World) (hr : R.length = rn) (hh : H.length = hn) (hrb : rn ≤ 1000000) (hhb : hn ≤ 1000000) (h : LdS base w Q V (LdL R H)) :
    Calls Try.prog 31 #[.pointer (some ⟨Q, 0, none⟩), .int .i64 owner] w fun e w' => e = .returned (.tuple #[]) ∧ ∃ V' : Nat → Value, LdS base w' Q V' (LdL (rmP R owner) (rmI H owner)) ∧ Chg (fun k _ => LdF Q V k) w w' ∧ (∀ k, LdF Q V' k → LdF Q V k ∨ w.heap.size ≤ k) := by
  obtain ⟨A0, c0, e0, r0⟩ := (h.own 0 (by omega)).rd
  obtain ⟨A1, c1, e1, r1⟩ := (h.own 1 (by omega)).rd
  obtain ⟨A2, c2, e2, r2⟩ := (h.own 2 (by omega)).rd
  have x0 := h.cell (i := 0) (by omega)
  have x1 := h.cell (i := 1) (by omega)
  have x2 := h.cell (i := 2) (by omega)
  rw [e0, show (LdL R H 0).length = rn from by rw [← hr]; exact List.length_map _] at x0
  rw [e1, show (LdL R H 1).length = rn from by rw [← hr]; exact List.length_map _] at x1
  rw [e2, show (LdL R H 2).length = hn from hh] at x2
  have X0 := Lib.hid x0
  have X1 := Lib.hid x1
  have X2 := Lib.hid x2
  have R0 := Lib.hid r0
  have R1 := Lib.hid r1
  have R2 := Lib.hid r2
  have HS := Lib.hid h
  have HR := Lib.hid hr
  have HH := Lib.hid hh
  clear x0 x1 x2 r0 r1 r2 h e0 e1 e2 hr hh
  have hql := Lib.hid HS.out.blk.lt
  go_enter Try.func31, Try.ntmps31
  go_wp2_with fail
  go_loopw [4, 5, 7] (fun t4 t5 t7 wr => ∃ k : Nat, k ≤ rn ∧ t7 = .int .i64 (k : Int) ∧ Own encI 3 wr w.heap.size t4 ((rmP (R.take k) owner).map (·.1)) ∧ Own encI 3 wr w.heap.size t5 ((rmP (R.take k) owner).map (·.2)) ∧ Sep t4 t5 ∧ Below w.heap.size w wr) (fun _ _ t7 _ => rn - (intOf t7).toNat)
  case atStart => exact ⟨0, Nat.zero_le _, rfl, Own.nil_ _ _ _ _, Own.nil_ _ _ _ _, (fun k e => by cases e), Below.refl _ _⟩
  case round =>
    obtain ⟨k, hk, rfl, ho1, ho2, hsp, hB⟩ := hrel
    have hll : ((rmP (R.take k) owner)).length ≤ k := Nat.le_trans (List.length_filter_le _ _) (by rw [List.length_take]; omega)
    have hlen1 := Lib.hid (show ((rmP (R.take k) owner).map (·.1)).length ≤ 1000000 by rw [List.length_map]; omega)
    have hlen2 := Lib.hid (show ((rmP (R.take k) owner).map (·.2)).length ≤ 1000000 by rw [List.length_map]; omega)
    have x0 := (hB.cell (p := ⟨Q, 0, none⟩) hql.out).trans X0.out
    have x1 := (hB.cell (p := ⟨Q, 1, none⟩) hql.out).trans X1.out
    have x2 := (hB.cell (p := ⟨Q, 2, none⟩) hql.out).trans X2.out
    clear hll
    by_cases hlk : k < rn
    · have hlk' : (k : Int) < (rn : Int) := by omega
      obtain ⟨a0, y0, hA0, hy0, hc0⟩ := (R0.out.below hB).at_ (show k < (LdL R H 0).length by rw [show (LdL R H 0).length = rn from by rw [← HR.out]; exact List.length_map _]; exact hlk)
      obtain ⟨a1, y1, hA1, hy1, hc1⟩ := (R1.out.below hB).at_ (show k < (LdL R H 1).length by rw [show (LdL R H 1).length = rn from by rw [← HR.out]; exact List.length_map _]; exact hlk)
      subst hA0
      subst hA1
      obtain ⟨p, hp⟩ : ∃ p, R[k]? = some p := ⟨_, List.getElem?_eq_getElem (by rw [HR.out]; exact hlk)⟩
      obtain rfl : y0 = p.1 := by have h1 : (R.map (·.1))[k]? = some y0 := hy0; rw [List.getElem?_map, hp] at h1; exact (Option.some.inj h1).symm
      obtain rfl : y1 = p.2 := by have h1 : (R.map (·.2))[k]? = some y1 := hy1; rw [List.getElem?_map, hp] at h1; exact (Option.some.inj h1).symm
      have hst := rmP_step hp owner
      have R1c := Lib.hid (show w.cell? (a1.add k) = some (.int .i64 p.2) by
        obtain ⟨a2, y2, hA2, hy2, hc2⟩ := R1.out.at_ (show k < (LdL R H 1).length by rw [show (LdL R H 1).length = rn from by rw [← HR.out]; exact List.length_map _]; exact hlk)
        cases hA2
        have h1 : (R.map (·.2))[k]? = some y2 := hy2
        rw [List.getElem?_map, hp] at h1
        cases h1
        exact hc2)
      have HB := Lib.hid hB
      have HO1 := Lib.hid ho1
      have HO2 := Lib.hid ho2
      have HSP := Lib.hid hsp
      clear hp hB ho1 ho2 hy0 hy1 hsp
      cases hb : (p.1 != owner) with
      | false =>
        rw [hb, if_neg (by decide), List.append_nil] at hst
        have HST := Lib.hid hst
        clear hst
        go_wp2
        go_roundw
        case rel => exact ⟨k + 1, by omega, by go_num, by rw [HST.out]; exact HO1.out, by rw [HST.out]; exact HO2.out, HSP.out, HB.out⟩
        case measure => simp [intOf]; omega
      | true =>
        rw [hb, if_pos rfl] at hst
        have HST := Lib.hid hst
        clear hst
        have hq2 := Lib.hid (Nat.lt_of_lt_of_le hql.out HB.out.size)
        go_wp2_with (first
          | (at_builtin; refine wpList_appendO _ intTy encI_one rfl (.tmp 27) (.tmp 35) rfl w.heap.size _ _ [p.1] rfl (HO1.out.alloc (.cells #[.int .i64 p.1] 3)) (some ⟨wr.heap.size, 0, none⟩) 1 rfl (Rd.one encI wr 3 p.1) (by have := hlen1.out; simp only [maxLen, List.length_singleton]; omega) (by have := hlen1.out; simp only [List.length_singleton]; omega) (by have := HB.out.size; simp; omega) ?_; intro v1 w1 o1 hg1 hloc1
             have B1 := below_own (HB.out.alloc HB.out.size (.cells #[.int .i64 p.1] 3)) (HO1.out.alloc (.cells #[.int .i64 p.1] 3)) (Nat.le_refl _) hg1 (by have := HB.out.size; simp; omega)
             have p2 := (HO2.out.alloc (.cells #[.int .i64 p.1] 3)).grown hg1 (sep_or HSP.out)
             have s2 : Sep v1 u5 := sep_grow HSP.out hloc1 fun k hk => ((HO2.out.alloc (.cells #[.int .i64 p.1] 3)).lt k hk).2
             have y1 := (B1.cell (p := ⟨Q, 1, none⟩) hql.out).trans X1.out
             have z1 := (B1.cell (World.block_lt_of_cell? _ _ (R1c.out))).trans R1c.out
             have P2 := Lib.hid p2
             have S2 := Lib.hid s2
             have BB1 := Lib.hid B1
             have O1 := Lib.hid o1
             clear p2 s2 B1 hg1 hloc1 o1 x0 x1 x2 hc0 hc1)
          | (at_builtin; refine wpList_appendO _ intTy encI_one rfl (.tmp 37) (.tmp 45) rfl w.heap.size _ _ [p.2] rfl (P2.out.alloc (.cells #[.int .i64 p.2] 3)) (some ⟨w1.heap.size, 0, none⟩) 1 rfl (Rd.one encI w1 3 p.2) (by have := hlen2.out; simp only [maxLen, List.length_singleton]; omega) (by have := hlen2.out; simp only [List.length_singleton]; omega) (by have := BB1.out.size; simp; omega) ?_; intro v2 w2 o2 hg2 hloc2
             have B2 := below_own (BB1.out.alloc BB1.out.size (.cells #[.int .i64 p.2] 3)) (P2.out.alloc (.cells #[.int .i64 p.2] 3)) (Nat.le_refl _) hg2 (by have := BB1.out.size; simp; omega)
             have p1 := (O1.out.alloc (.cells #[.int .i64 p.2] 3)).grown hg2 (sep_or S2.out.symm)
             have s3 : Sep v2 v1 := sep_grow S2.out.symm hloc2 fun k hk => ((O1.out.alloc (.cells #[.int .i64 p.2] 3)).lt k hk).2
             clear hg2 hloc2))
        go_roundw
        case rel => exact ⟨k + 1, by omega, by go_num, by rw [HST.out, List.map_append]; exact p1, by rw [HST.out, List.map_append]; exact o2, s3.symm, B2⟩
        case measure => simp [intOf]; omega
    · obtain rfl : k = rn := by omega
      rw [List.take_of_length_le (by rw [HR.out]; exact Nat.le_refl _)] at ho1 ho2
      have HA := Lib.hid ho1
      have HC := Lib.hid ho2
      have HSA := Lib.hid hsp
      have HB0 := Lib.hid hB
      clear ho1 ho2 hsp hB x1 x2 hlen1 hlen2 X1 R0 R1
      go_wp2_with fail
      go_loopw [6, 8] (fun t6 t8 wr => ∃ k : Nat, k ≤ hn ∧ t8 = .int .i64 (k : Int) ∧ Own encI 3 wr w.heap.size t6 (rmI (H.take k) owner) ∧ Own encI 3 wr w.heap.size u4 ((rmP R owner).map (·.1)) ∧ Own encI 3 wr w.heap.size u5 ((rmP R owner).map (·.2)) ∧ Sep t6 u4 ∧ Sep t6 u5 ∧ Below w.heap.size w wr) (fun _ t8 _ => hn - (intOf t8).toNat)
      case atStart => exact ⟨0, Nat.zero_le _, rfl, Own.nil_ _ _ _ _, HA.out, HC.out, (fun k e => by cases e), (fun k e => by cases e), HB0.out⟩
      case round =>
        clear HA HC HB0
        obtain ⟨k, hk, rfl, ho, hoa, hoc, sa, sc, hB⟩ := hrel
        have hlen := Lib.hid (show (rmI (H.take k) owner).length ≤ 1000000 from Nat.le_trans (List.length_filter_le _ _) (by rw [List.length_take]; omega))
        have x2 := (hB.cell (p := ⟨Q, 2, none⟩) hql.out).trans X2.out
        have HO := Lib.hid ho
        have HOA := Lib.hid hoa
        have HOC := Lib.hid hoc
        have SA := Lib.hid sa
        have SC := Lib.hid sc
        by_cases hlk : k < hn
        · have hlk' : (k : Int) < (hn : Int) := by omega
          obtain ⟨a0, y, hA0, hy, hc0⟩ := (R2.out.below hB).at_ (show k < (LdL R H 2).length by rw [show (LdL R H 2).length = hn from HH.out]; exact hlk)
          subst hA0
          have hst := rmI_step (show H[k]? = some y from hy) owner
          have HB := Lib.hid hB
          clear hB ho hoa hoc sa sc hy
          cases hb : (y != owner) with
          | false =>
            rw [hb, if_neg (by decide), List.append_nil] at hst
            have HST := Lib.hid hst
            clear hst
            go_wp2
            go_roundw
            case rel => exact ⟨k + 1, by omega, by go_num, by rw [HST.out]; exact HO.out, HOA.out, HOC.out, SA.out, SC.out, HB.out⟩
            case measure => simp [intOf]; omega
          | true =>
            rw [hb, if_pos rfl] at hst
            have HST := Lib.hid hst
            clear hst
            go_wp2_with (at_builtin; refine wpList_appendO _ intTy encI_one rfl (.tmp 65) (.tmp 73) rfl w.heap.size _ _ [y] rfl (HO.out.alloc (.cells #[.int .i64 y] 3)) (some ⟨wr.heap.size, 0, none⟩) 1 rfl (Rd.one encI wr 3 y) (by have := hlen.out; simp only [maxLen, List.length_singleton]; omega) (by have := hlen.out; simp only [List.length_singleton]; omega) (by have := HB.out.size; simp; omega) ?_; intro v1 w1 o1 hg1 hloc1
              )
            have B1 := below_own (HB.out.alloc HB.out.size (.cells #[.int .i64 y] 3)) (HO.out.alloc (.cells #[.int .i64 y] 3)) (Nat.le_refl _) hg1 (by have := HB.out.size; simp; omega)
            have pa := (HOA.out.alloc (.cells #[.int .i64 y] 3)).grown hg1 (sep_or SA.out)
            have pc := (HOC.out.alloc (.cells #[.int .i64 y] 3)).grown hg1 (sep_or SC.out)
            have sa : Sep v1 u4 := sep_grow SA.out hloc1 fun k hk => ((HOA.out.alloc (.cells #[.int .i64 y] 3)).lt k hk).2
            have sc : Sep v1 u5 := sep_grow SC.out hloc1 fun k hk => ((HOC.out.alloc (.cells #[.int .i64 y] 3)).lt k hk).2
            clear hg1 hloc1
            go_roundw
            case rel => exact ⟨k + 1, by omega, by go_num, by rw [HST.out]; exact o1, pa, pc, sa, sc, B1⟩
            case measure => simp [intOf]; omega
        · obtain rfl : k = hn := by omega
          rw [List.take_of_length_le (by rw [HH.out]; exact Nat.le_refl _)] at ho
          have HO := Lib.hid ho
          have HB := Lib.hid hB
          have hbk := Lib.hid (HS.out.blk.below hB hql.out)
          have q0 : wr.cell? ⟨Q, 0, none⟩ = some (V 0) := by rw [hbk.out.cell]; rfl
          have q1 : wr.cell? ⟨Q, 1, none⟩ = some (V 1) := by rw [hbk.out.cell]; rfl
          have f0 := hbk.out.frozen 0
          have f1 := hbk.out.frozen 1
          have f2 := hbk.out.frozen 2
          clear hB ho hoa hoc sa sc
          obtain ⟨A4, n4, c4, rfl⟩ : ∃ A n c, u4 = .slice A n c := by obtain ⟨A, c, e, _⟩ := HOA.out.slice; exact ⟨_, _, _, e⟩
          obtain ⟨A5, n5, c5, rfl⟩ : ∃ A n c, u5 = .slice A n c := by obtain ⟨A, c, e, _⟩ := HOC.out.slice; exact ⟨_, _, _, e⟩
          obtain ⟨A6, n6, c6, rfl⟩ : ∃ A n c, u6 = .slice A n c := by obtain ⟨A, c, e, _⟩ := HO.out.slice; exact ⟨_, _, _, e⟩
          go_wp2
          go_end0
          have hcq : ∀ (v : World) (i : Nat) (u : Value), Chg (fun k _ => LdF Q V k) v (v.setCell ⟨Q, i, none⟩ u) := fun v i u => Chg.setCell (fun k _ => LdF Q V k) _ (show LdF Q V Q from .inl rfl) u
          have hbw : base ≤ w.heap.size := Nat.le_trans HS.out.hQ (Nat.le_of_lt hql.out)
          refine ⟨rfl, tri _ _ _, LdS.mk3 hbk.out ((OffI.of_own HOA.out).lower hbw) ((OffI.of_own HOC.out).lower hbw) ((OffI.of_own HO.out).lower hbw) HSA.out SA.out SC.out HS.out.hQ, (((Chg.of_below (fun k _ => LdF Q V k) HB.out).trans (hcq _ _ _) fun _ _ _ h => h).trans (hcq _ _ _) fun _ _ _ h => h).trans (hcq _ _ _) fun _ _ _ h => h, fun k hk => ?_⟩
          rcases hk with rfl | ⟨i, hi, e⟩
          · exact .inl (.inl rfl)
          · right
            match i, hi, e with
            | 0, _, e => exact (HOA.out.lt k e).1
            | 1, _, e => exact (HOC.out.lt k e).1
            | 2, _, e => exact (HO.out.lt k e).1
end Go.Proofs.Ytkjbjfjgnponfaa
