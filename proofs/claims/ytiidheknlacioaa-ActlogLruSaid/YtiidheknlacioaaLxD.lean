/- ActlogLru: a call on both, by contract: Keys. -/
import Derived.Test.YtiidheknlacioaaLxC
namespace Go.Proofs.Ytiidheknlacioaa
open Go.RowKit
set_option linter.unusedVariables false
set_option linter.unusedSimpArgs false
def encT (b : ByteArray) : List Value := [.string b]
theorem encT_len (b : ByteArray) : (encT b).length = 1 := rfl
theorem encT_one (b : ByteArray) : ∀ v ∈ encT b, v.oneCell' = true := fun v hv => by obtain rfl := List.mem_singleton.1 hv; rfl
theorem GSl.names {w : World} {A : Option Addr} {c : Nat} {l : List Int} (h : GSl KS.kC 1 9 w A c l) : GSl encT 1 9 w A c (l.map nameB) := by
  rcases h with ⟨rfl, rfl, rfl⟩ | ⟨g, o, cs, rfl, h1, h2, h3, h4, h5⟩
  · exact .inl ⟨rfl, rfl, rfl⟩
  · refine .inr ⟨g, o, cs, rfl, by rw [List.length_map]; exact h1, h2, h3, h4, fun i x hx j v hv => ?_⟩
    rw [List.getElem?_map] at hx
    obtain ⟨k, hk, rfl⟩ := Option.map_eq_some_iff.1 hx
    exact h5 i k hk j v hv
theorem keys_wf {w : World} {G N : Nat} {s : LruS} {F : Nat → Nat → Prop} (L : KS.LruAt w G N s F) : (∀ k ∈ keysS s, (Lit.int .i64 k).wf = true) ∧ (keysS s).length ≤ 32 := by
  obtain ⟨gp, b, n, Ai, ci, hl, _, _⟩ := L
  constructor
  · intro k hk
    unfold keysS at hk
    rcases List.mem_append.1 hk with hk | hk
    · obtain ⟨i, hi, rfl⟩ := List.mem_map.1 hk
      obtain ⟨k', hk'⟩ := (hl.ok.idle i).1 hi
      rw [plcAt_eq hk']
      exact hl.oks _ _ _ hk'
    · obtain ⟨p, hp, e⟩ := List.mem_filterMap.1 hk
      obtain ⟨i, hi, rfl⟩ := List.getElem_of_mem hp
      unfold busyK at e
      cases hq : s.ps[i] with
      | none => rw [hq] at e; cases e
      | some x =>
        rw [hq] at e
        dsimp only at e
        split at e
        · cases e; exact hl.oks i x.1 x.2 (by rw [List.getElem?_eq_getElem hi, hq])
        · cases e
  · unfold keysS
    rw [List.length_append, List.length_map]
    have h1 := hl.idle_len
    have h2 := List.length_filterMap_le busyK s.ps
    have h3 := hl.len.2
    omega
section
variable {base G H N : Nat} {w0 wr w' : World} {s : LruS} {r : RLru} {F FR : Nat → Nat → Prop}
theorem LX.high (h : LX base G H w0 wr N s r F FR) (hc : Chg (fun k _ => wr.heap.size ≤ k) wr w') : LX base G H w0 w' N s r F FR :=
  { h with bel := h.bel.trans (hc.below h.bs fun j i hj hle => by have := h.bs; omega), bs := Nat.le_trans h.bs hc.size, lru := h.lru.chg hc fun j i hj hle => by have := h.lru.fp_lt hj; omega, ref := h.ref.chg hc fun j i hj hle => by have := h.ref.fp_lt hj; omega }
set_option maxRecDepth 20000 in
set_option maxHeartbeats 4000000 in
theorem texts_keys (h : LX base G H w0 wr N s r F FR) (of_ key i : Int) (hk : (Lit.int .i64 key).wf = true) (hiw : (Lit.int .i64 i).wf = true) (hN : N < 4611686018427387904) :
    Calls Try.prog 24 #[.pointer (some ⟨G, 0, none⟩), .pointer (some ⟨H, 0, none⟩), .agg #[.int .i64 4, .int .i64 of_, .int .i64 key], .int .i64 i] wr (TxP base G H w0 N FR) := by
  have HNM := Lib.hid (fun w => name_any key hk w)
  have HNI := Lib.hid (fun w => name_any i hiw w)
  have Hh := Lib.hid h
  obtain ⟨hkw, hkl⟩ := keys_wf h.lru
  have HKW := Lib.hid hkw
  clear h hk hiw hkw
  go_enter Try.func24, Try.ntmps24
  go_wp2_with fail
  refine (HNM.out _).mono ?_
  rintro e w2 ⟨rfl, B2⟩
  obtain ⟨l2, x0, _⟩ := texts_start Hh.out 4 of_ key B2
  have L2 := Lib.hid l2
  clear l2 B2
  go_wp2_with fail
  refine (KS.keys_any L2.out.lru).mono ?_
  rintro e w3 ⟨A, c, rfl, g3, B3, f3⟩
  have HRK := Lib.hid ((L2.out.below B3).ref.keys L2.out.sim (by have := L2.out.pl; omega))
  have g3' := Lib.hid g3.names
  have B3' := Lib.hid B3
  have f3' := Lib.hid f3
  obtain ⟨n, hn⟩ : ∃ n, n = (keysS s).length := ⟨_, rfl⟩
  rw [← hn] at HRK hkl ⊢
  have Hn := Lib.hid hn
  clear g3 B3 f3 hn
  go_wp2_with fail
  refine HRK.out.mono ?_
  rintro e w4 ⟨A', c', rfl, g4, B4, f4⟩
  have C4 := Lib.hid ((Chg.of_below (fun k _ => w2.heap.size ≤ k) B3'.out).trans (Chg.of_below (fun k _ => w2.heap.size ≤ k) B4) fun _ _ _ h => h)
  have g5 := Lib.hid (g3'.out.chg (Chg.of_below (fun _ _ => False) B4) encT_len fun _ _ _ h => h)
  have g4' := Lib.hid g4
  have f4' := Lib.hid (fun j i hj => Nat.le_trans B3'.out.size (f4 j i hj))
  clear g4 B4 f4 HRK g3' B3'
  go_wp2_with fail
  go_loopw [22] (fun t22 wr => ∃ (j : Nat) (Y : List ByteArray), j ≤ n ∧ t22 = .int .i64 (j : Int) ∧ Hid (Y.length = n) ∧ Hid (∀ q, j ≤ q → Y[q]? = ((keysS s).map nameB)[q]?) ∧ Hid (GSl encT 1 9 wr A c Y) ∧ Hid (GSl encK 1 3 wr A' c' (keysS s)) ∧ Hid (Chg (fun k _ => w2.heap.size ≤ k) w2 wr)) (fun t22 _ => n - (intOf t22).toNat)
  case atStart => exact ⟨0, _, Nat.zero_le _, rfl, Lib.hid (by rw [List.length_map]; exact Hn.out.symm), Lib.hid (fun _ _ => rfl), g5, g4', C4⟩
  case round =>
    clear g5 g4' C4
    obtain ⟨j, Y, hj, rfl, HY, HQ, GT, GK, HC⟩ := hrel
    by_cases hlt : j < n
    · obtain ⟨k, hk⟩ : ∃ k, (keysS s)[j]? = some k := ⟨_, List.getElem?_eq_getElem (by rw [← Hn.out]; exact hlt)⟩
      have hyk : Y[j]? = some (nameB k) := by rw [HQ.out j (Nat.le_refl _), List.getElem?_map, hk]; rfl
      obtain ⟨g, o, hA, hgl, hcl⟩ := GT.out.cell hyk
      obtain ⟨g', o', hA', hgl', hcl'⟩ := GK.out.cell hk
      subst hA hA'
      have y0 : wr.cell? ⟨g, o + j, none⟩ = some (.string (nameB k)) := by have := (hcl 0 _ rfl).1; rwa [Nat.mul_one, Nat.add_zero] at this
      have z0 : wr.cell? ⟨g', o' + j, none⟩ = some (.int .i64 k) := by have := (hcl' 0 _ rfl).1; rwa [Nat.mul_one, Nat.add_zero] at this
      have HNK := Lib.hid (fun w => name_any k (HKW.out k (List.mem_of_getElem? hk)) w)
      have T0 : wr.drew.cell? ⟨g, o + j, none⟩ = some (.string (nameB k)) ∧ wr.drew.cell? ⟨g', o' + j, none⟩ = some (.int .i64 k) := ⟨y0, z0⟩
      have HT0 := Lib.hid T0
      have KZ : ∀ v, Below wr.drew.heap.size wr.drew v → v.cell? ⟨g, o + j, none⟩ = some (.string (nameB k)) ∧ v.cell? ⟨g', o' + j, none⟩ = some (.int .i64 k) := fun v hv => ⟨(hv.cell (p := ⟨g, o + j, none⟩) hgl).trans y0, (hv.cell (p := ⟨g', o' + j, none⟩) hgl').trans z0⟩
      have HKZ := Lib.hid KZ
      have hlt' : (j : Int) < (n : Int) := by omega
      have Hk := Lib.hid hk
      have Hyk := Lib.hid hyk
      clear T0 KZ hcl hcl' hk hyk
      go_wp2_with fail
      go_region_held3 (fun w' => w'.cell? ⟨g, o + j, none⟩ = some (.string (nameB k)) ∧ w'.cell? ⟨g', o' + j, none⟩ = some (.int .i64 k)) (first | exact HT0.out | exact HKZ.out _ hB5.out) (first
        | (go_at_call 60; (with_reducible refine (HNK.out _).mono ?_); rintro e w5 ⟨rfl, B5⟩; have hB5 := Lib.hid B5; clear B5))
      have BB : Below wr.heap.size wr w5 := ⟨hB5.out.os, hB5.out.tape, hB5.out.output, hB5.out.size, hB5.out.block⟩
      have G5 := Lib.hid (GT.out.chg (Chg.of_below (fun _ _ => False) BB) encT_len fun _ _ _ h => h)
      have K5 := Lib.hid (GK.out.chg (Chg.of_below (fun _ _ => False) BB) encK_len fun _ _ _ h => h)
      have C5 := Lib.hid (HC.out.trans (Chg.of_below (fun k _ => w2.heap.size ≤ k) BB) fun _ _ _ h => h)
      obtain ⟨_, _, e5, _, hc5⟩ := G5.out.cell Hyk.out
      cases e5
      obtain ⟨d0, d0f⟩ : w5.cell? ⟨g, o + j, none⟩ = some (.string (nameB k)) ∧ w5.frozen? ⟨g, o + j, none⟩ = false := by have := hc5 0 _ rfl; rwa [Nat.mul_one, Nat.add_zero] at this
      have hg2 : w2.heap.size ≤ g := f3'.out g o ⟨o, rfl, by omega, by have := G5.out.le; have := HY.out; omega⟩
      have HG2 := Lib.hid hg2
      clear BB hc5 hg2
      go_wp2_with fail
      go_roundw
      case rel =>
        refine ⟨j + 1, Y.set j ⟨#[115, 112, 111, 105, 108, 116]⟩, by omega, by go_num, Lib.hid (by rw [List.length_set]; exact HY.out), Lib.hid (fun q hq => by rw [getElem?_set_ne _ (by omega)]; exact HQ.out q (by omega)), Lib.hid ?_, Lib.hid ?_, Lib.hid ?_⟩
        · have := G5.out.setAt encT_len (j := 0) (y := ⟨#[115, 112, 111, 105, 108, 116]⟩) (u := .string ⟨#[115, 112, 111, 105, 108, 116]⟩) Hyk.out (by decide) rfl
          rwa [Nat.mul_one, Nat.add_zero] at this
        · refine K5.out.chg (Chg.setCell (fun q _ => q = g) w5 (g := g) (i := o + j) rfl _) encK_len fun q m hs e => ?_
          subst e
          obtain ⟨cs, hb⟩ := slFp_cells G5.out (g := q) (i := o) ⟨o, rfl, by omega, by have := G5.out.le; have := HY.out; omega⟩
          exact absurd (slFp_type K5.out (slFp_len K5.out hs) hb) (by decide)
        · exact C5.out.trans (Chg.setCell (fun k _ => w2.heap.size ≤ k) w5 (g := g) (i := o + j) HG2.out _) fun _ _ _ h => h
      case measure => simp [intOf]; omega
    · obtain rfl : j = n := by omega
      have gin := Lib.hid (GT.out.chg (Chg.alloc (fun _ _ => False) wr (.cells #[.string ⟨#[109, 111, 114, 101]⟩] 9)) encT_len fun _ _ _ h => h)
      have gnew : RdS encT 1 (wr.alloc (.cells #[.string ⟨#[109, 111, 114, 101]⟩] 9)) (some ⟨wr.heap.size, 0, none⟩) [⟨#[109, 111, 114, 101]⟩] := RdS.new1 encT 1 wr 9 ⟨#[109, 111, 114, 101]⟩
      go_upto_region 29 with (first
        | (at_builtin; refine wpList_appendG KS.kTy (by decide) encT_len encT_one rfl (.tmp 139) (.tmp 140) rfl A c Y (by rw [HY.out]; rfl) gin.out (some ⟨wr.heap.size, 0, none⟩) 1 [⟨#[109, 111, 114, 101]⟩] rfl gnew (by rw [HY.out]; simp only [maxLen, List.length_singleton]; omega) (by rw [HY.out]; simp only [List.length_singleton]; omega) ?_; intro A7 c7 w7 g7 k7 q7))
      have hm : (Y ++ [(⟨#[109, 111, 114, 101]⟩ : ByteArray)])[j]? = some ⟨#[109, 111, 114, 101]⟩ := by rw [List.getElem?_append_right (by rw [HY.out]; exact Nat.le_refl _), HY.out, Nat.sub_self]; rfl
      obtain ⟨g8, o8, hA8, hl8, _⟩ := g7.cell hm
      have C7 := Lib.hid ((HC.out.trans (Chg.alloc (fun k _ => w2.heap.size ≤ k) wr (.cells #[.string ⟨#[109, 111, 114, 101]⟩] 9)) fun _ _ _ h => h).trans k7 fun k m _ hs => f3'.out k m (slFp_zero hs))
      have hg8 : w2.heap.size ≤ g8 := by
        rcases q7 with ⟨rfl, rfl⟩ | ⟨g', e, hg'⟩
        · exact f3'.out g8 o8 ⟨o8, hA8, by omega, by have := g7.le; rw [List.length_append, HY.out] at this; simp at this; omega⟩
        · rw [hA8] at e
          cases e
          have := HC.out.size
          simp at hg'
          omega
      subst hA8
      have G7 := Lib.hid g7
      have Hm := Lib.hid hm
      have HG8 := Lib.hid hg8
      have hj63 : IntKind.i64.wrap (((j + 1 : Nat) : Int) - 1) = (j : Int) := i64_in_ _ (by omega) |>.trans (by omega)
      rw [HY.out]
      clear g7 k7 q7 hm hg8 gin gnew
      go_wp2_with fail
      refine (HNI.out _).mono ?_
      rintro e w8 ⟨rfl, B8⟩
      have G8 := Lib.hid (G7.out.chg (Chg.of_below (fun _ _ => False) B8) encT_len fun _ _ _ h => h)
      have C8 := Lib.hid (C7.out.trans (Chg.of_below (fun k _ => w2.heap.size ≤ k) B8) fun _ _ _ h => h)
      obtain ⟨_, _, e8, _, hc8⟩ := G8.out.cell Hm.out
      cases e8
      obtain ⟨d0, d0f⟩ : w8.cell? ⟨g8, o8 + j, none⟩ = some (.string ⟨#[109, 111, 114, 101]⟩) ∧ w8.frozen? ⟨g8, o8 + j, none⟩ = false := by have := hc8 0 _ rfl; rwa [Nat.mul_one, Nat.add_zero] at this
      have L8 := Lib.hid (L2.out.high (C8.out.trans (Chg.setCell (fun k _ => w2.heap.size ≤ k) w8 (g := g8) (i := o8 + j) HG8.out (.string (nameB i))) fun _ _ _ h => h))
      clear hc8 B8
      go_wp2_with fail
      go_ret
      exact ⟨rfl, _, _, _, L8.out.next (Nat.le_succ N)⟩
end
end Go.Proofs.Ytiidheknlacioaa
