/- The Lru of package actlog, keys texts: Put, by contract. -/
import Derived.Test.YtiidheknlacioaaLruTS
import Derived.Shelf.SlicesE.Clone
import Derived.Ground.SlgnProg
namespace Go.Proofs.Ytiidheknlacioaa.KS
open Go.RowKit Go.Shelf Go.Lib
set_option linter.unusedVariables false
set_option linter.unusedSimpArgs false
shelf_lay_g SlLaysE0.n41 Slgn 41 at Try 56 as Try.clnS
theorem nTy : SlTy Try.prog 22 3 1 8 := SlTy.mk' (z := .int .i64 0) Try.underlying22 (by kernel_rfl) rfl
theorem encI_one (x : Nat) : (encI x).oneCell' = true := rfl
theorem Own.gsl {w : World} {base n c : Nat} {A : Option Addr} {l : List Nat} (h : Own encI 3 w base (.slice A n c) l) : n = l.length ∧ GSl encN 1 3 w A c l ∧ ∀ k i, slFp 1 A 0 c k i → base ≤ k := by
  rcases h.form with ⟨e, rfl⟩ | ⟨g, cap, cs, e, hg, hb, hn, hc, hs, ht⟩
  · cases e
    exact ⟨rfl, GSl.nil_, fun k i ⟨o, e, _⟩ => by cases e⟩
  · cases e
    refine ⟨rfl, .inr ⟨g, 0, cs, rfl, hn, hc, hb, by omega, fun i x hx j v hv => ?_⟩, fun k i ⟨o, e, _⟩ => by cases e; exact hg⟩
    have hi := (List.getElem?_eq_some_iff.1 hx).1
    have hj := (List.getElem?_eq_some_iff.1 hv).1
    rw [encN_len] at hj
    obtain rfl : j = 0 := by omega
    have h1 : (cs.toList.take l.length)[i]? = (l.map encI)[i]? := by rw [ht]
    rw [List.getElem?_take, if_pos hi, List.getElem?_map, hx] at h1
    have hv2 : v = encI x := by simp [encN] at hv; exact hv.symm
    rw [hv2, show 0 + (i * 1 + 0) = i by omega]
    simpa using h1
set_option maxHeartbeats 1000000 in
theorem clone_any {A : Option Addr} {c : Nat} {l : List Nat} {w : World} (h : GSl encN 1 3 w A c l) (hl : l.length ≤ 1000000) : Calls Try.prog 56 #[.slice A l.length c] w fun e w' => ∃ v', e = .returned v' ∧ Own encI 3 w' w.heap.size v' l ∧ Below w.heap.size w w' := by
  have hr := h.rds
  rcases h with ⟨rfl, rfl, rfl⟩ | ⟨g, o, cs, rfl, h1, h2, h3, h4, h5⟩
  · refine (AnyE.slices_Clone_nil Try.clnS 0 0 w).mono ?_
    rintro e w' ⟨rfl, rfl⟩
    exact ⟨_, rfl, Own.nil_ _ _ _ _, Below.refl _ _⟩
  · obtain ⟨i, z, hi, hz, hs, hb, hzs⟩ := nTy.ex
    have hcon := AnyE.slices_Clone Try.clnS i z 1 8 hi hz hs hb hzs (by decide) Try.sizeOf3 g o l.length c (l.map encI) w (by simp) (by unfold maxLen; omega) (by omega) (fun j u hu => by
      rw [List.getElem?_map] at hu
      obtain ⟨x, hx, rfl⟩ := Option.map_eq_some_iff.1 hu
      obtain ⟨b, o', e, _, hc⟩ := hr j x hx
      cases e
      have := hc 0 _ rfl
      rwa [Nat.mul_one, Nat.add_zero] at this) (fun u hu => by obtain ⟨x, _, rfl⟩ := List.mem_map.1 hu; rfl)
    refine hcon.mono ?_
    rintro e w' ⟨v', rfl, ho, _, hb'⟩
    exact ⟨v', rfl, ho, hb'⟩
theorem nodup_len : ∀ {a b : List Nat}, a.Nodup → a ⊆ b → a.length ≤ b.length
  | [], b, _, _ => Nat.zero_le _
  | x :: a, b, hn, hs => by
    rw [List.nodup_cons] at hn
    have hx : x ∈ b := hs (List.mem_cons_self ..)
    have h2 : a ⊆ b.erase x := fun y hy => by
      have hne : y ≠ x := fun e => hn.1 (e ▸ hy)
      exact (List.mem_erase_of_ne hne).2 (hs (List.mem_cons_of_mem _ hy))
    have := nodup_len hn.2 h2
    rw [List.length_erase_of_mem hx] at this
    have hp := List.length_pos_of_mem hx
    rw [List.length_cons]
    omega
/-- no more idle ones than places -/
theorem LruOk.idle_len {s : LruS} (h : LruOk s) : s.idle.length ≤ s.ps.length := by
  have hsub : s.idle ⊆ List.range s.ps.length := fun i hi => by
    obtain ⟨k, hk⟩ := (h.idle i).1 hi
    exact List.mem_range.2 (List.getElem?_eq_some_iff.1 hk).1
  have := nodup_len h.nodup hsub
  rwa [List.length_range] at this
theorem LruIn.idle_len {w : World} {G : Nat} {s : LruS} {gp b n : Nat} {Ai : Option Addr} {ci : Nat} (h : LruIn w G s gp b n Ai ci) : s.idle.length ≤ 16 := Nat.le_trans (LruOk.idle_len h.ok) h.len.2
def PutP (w : World) (G N : Nat) (s : LruS) (F : Nat → Nat → Prop) (key : Int) (e : Ending) (w' : World) : Prop :=
  e = .returned (.int .i64 (putR s key)) ∧ ∃ F', LruAt w' G N (putT s key) F' ∧ Chg F w w' ∧ ∀ k i, F' k i → F k i ∨ w.heap.size ≤ k
section
variable {w w' : World} {G N gp b n ci : Nat} {s : LruS} {F F' : Nat → Nat → Prop} {Ai : Option Addr}
set_option maxRecDepth 20000 in
set_option maxHeartbeats 4000000 in
theorem put_cold (key : Int) (h : LruIn w G s gp b n Ai ci) (hk : kOk key) (hn : n ≤ N) (hF : ∀ k i, F k i ↔ lruFp G gp b Ai ci k i) (hc : ∀ i, slotS s key = some i → (plcAt s i).2 = 0) :
    Calls Try.prog 63 #[.pointer (some ⟨G, 0, none⟩), kV key] w (PutP w G N s F key) := by
  have hlook := h.look hk
  obtain ⟨c0, c1, c2⟩ := h.cells
  have fin : ∀ q, putR s key = 42 → putT s key = s → PutP w G N s F key (.returned (.int .i64 42)) (w.drewN q) := fun q e1 e2 =>
    ⟨by rw [e1], F, ⟨gp, b, n, Ai, ci, by rw [e2]; exact h.chg ((Chg.refl (fun _ _ => False) w).drewN q) fun _ _ _ h => h, hn, hF⟩, (Chg.refl F w).drewN q, fun _ _ h => .inl h⟩
  cases hs : slotS s key with
  | none =>
    rw [hs] at hlook
    simp only [Option.getD_none, Option.isSome_none] at hlook
    have HF := Lib.hid (fin 0 (by unfold putR; rw [hs]) (by unfold putT; rw [hs]))
    clear fin hs hc h hF
    go_enter Try.func63, Try.ntmps63
    go_wp2
    go_ret
    exact HF.out
  | some i =>
    rw [hs] at hlook
    simp only [Option.getD_some, Option.isSome_some] at hlook
    have h0 := hc i hs
    obtain ⟨h1, hlt, _⟩ := slotS_some hs
    have hr := (h.plc h1 1 _ rfl).1
    rw [h0] at hr
    have hlt' : (i : Int) < (s.ps.length : Int) := by omega
    have HF := Lib.hid (fun q => fin q (by unfold putR; rw [hs]; dsimp only; rw [if_pos h0]) (by unfold putT; rw [hs]; dsimp only; rw [if_pos h0]))
    clear fin hs hc h hF h1
    generalize s.ps.length = L at *
    go_enter Try.func63, Try.ntmps63
    go_wp2
    go_ret
    exact HF.out 0
set_option maxRecDepth 20000 in
set_option maxHeartbeats 4000000 in
theorem put_back (key : Int) (h : LruIn w G s gp b n Ai ci) (hk : kOk key) (hn : n ≤ N) (hF : ∀ k i, F k i ↔ lruFp G gp b Ai ci k i) {at_ : Nat} (hs : slotS s key = some at_) (h0 : (plcAt s at_).2 ≠ 0) (hb : (plcAt s at_).2 ≤ 9223372036854775807) (hil : s.idle.length ≤ 16) :
    Calls Try.prog 63 #[.pointer (some ⟨G, 0, none⟩), kV key] w (PutP w G N s F key) := by
  have hlook := h.look hk
  rw [hs] at hlook
  simp only [Option.getD_some, Option.isSome_some] at hlook
  obtain ⟨c0, c1, c2⟩ := h.cells
  obtain ⟨hp, hlt, _⟩ := slotS_some hs
  have hT : putT s key = backT s key at_ := by unfold putT; rw [hs]; dsimp only; rw [if_neg h0]
  have hR : putR s key = 0 := by unfold putR; rw [hs]; dsimp only; rw [if_neg h0]
  have hr0 := h.ok.refs _ _ _ hp
  obtain ⟨R, hRd⟩ : ∃ R, R = (plcAt s at_).2 := ⟨_, rfl⟩
  have hidl : (backT s key at_).idle = if R - 1 = 0 then s.idle ++ [at_] else s.idle := by rw [hRd]; rfl
  have hps : (backT s key at_).ps = s.ps.set at_ (some (key, R - 1)) := by rw [hRd]; rfl
  rw [← hRd] at hp h0 hb hr0
  obtain ⟨e1, z1⟩ := h.plc hp 1 _ rfl
  have hwr : IntKind.i64.wrap (R - 1) = R - 1 := i64_in_ _ ⟨by omega, by omega⟩
  have hne0 : (R == 0) = false := by rw [beq_eq_false_iff_ne]; exact h0
  have hlt' : (at_ : Int) < (s.ps.length : Int) := by omega
  have hok' : LruOk (backT s key at_) := by rw [← hT]; exact h.ok.put key
  have hoks' : ∀ (i : Nat) (k r : Int), (backT s key at_).ps[i]? = some (some (k, r)) → kOk k := oks_set h.oks hk
  have hlen' : 1 ≤ (backT s key at_).ps.length ∧ (backT s key at_).ps.length ≤ 16 := by have : (backT s key at_).ps.length = s.ps.length := List.length_set; rw [this]; exact h.len
  have hsl : slotS s = slotS (backT s key at_) := slotS_same h.ok hok' hp hps
  obtain ⟨n1, n2, n3⟩ := h.raw.ne_row
  have R1 := h.raw.refs hp (R - 1)
  obtain ⟨W1, hW1⟩ : ∃ W, w.setCell ⟨gp, at_ * 3 + 1, none⟩ (.int .i64 (R - 1)) = W := ⟨_, rfl⟩
  rw [hW1] at R1
  have S1 : W1.heap.size = w.heap.size := by rw [← hW1]; simp [World.setCell]
  have k1 : Chg F w W1 := by rw [← hW1]; exact Chg.setCell F w ((hF _ _).2 (.inr (.inl rfl))) _
  obtain ⟨d0, d1, d2⟩ := R1.cells
  rw [List.length_set] at d0
  obtain ⟨e2, z2⟩ := R1.plc (getElem?_set_at _ hlt) 1 _ rfl
  have HH := Lib.hid h
  have HR1 := Lib.hid R1
  have HK := Lib.hid k1
  have HT := Lib.hid hT
  have HRR := Lib.hid hR
  have HL := Lib.hid hlen'
  by_cases hz : R - 1 = 0
  · have hidl' : (backT s key at_).idle = s.idle ++ [at_] := by rw [hidl, if_pos hz]
    rw [hz] at e2 hwr hW1
    have CL := Lib.hid (clone_any R1.idl (by omega))
    have d2f : W1.frozen? ⟨G, 2, none⟩ = false := R1.blk.frozen 2
    have hGb := R1.blk.lt
    clear h hs hp hT hR R1 k1 hlen' hidl hr0 hRd
    go_enter Try.func63, Try.ntmps63
    go_upto_region 5 with fail
    clear hW1
    go_wp2_with fail
    refine CL.out.mono ?_
    rintro e w2 ⟨v2, rfl, o2, B2⟩
    have hsz2 : W1.heap.size ≤ w2.heap.size := B2.size
    go_upto_region 7 with (first
      | (at_builtin; refine wpList_appendO _ nTy encI_one rfl (.tmp 54) (.tmp 56) rfl W1.heap.size _ _ [at_] rfl (o2.alloc (.cells #[.int .i64 (at_ : Int)] 3)) (some ⟨w2.heap.size, 0, none⟩) 1 rfl (Rd.one encI w2 3 at_) (by simp only [maxLen, List.length_singleton]; omega) (by simp only [List.length_singleton]; omega) (by simp; omega) ?_; intro v3 w3 o3 hg3 hl3; have q2 : w3.cell? ⟨G, 2, none⟩ = some (.slice Ai s.idle.length ci) ∧ w3.frozen? ⟨G, 2, none⟩ = false := (by have hb := below_own (B2.alloc (Nat.le_trans (Nat.le_refl _) hsz2) (.cells #[.int .i64 (at_ : Int)] 3)) (o2.alloc (.cells #[.int .i64 (at_ : Int)] 3)) (Nat.le_refl _) hg3 (by simp; omega); have hc := HR1.out.blk.below hb hGb; exact ⟨hc.cell 2, hc.frozen 2⟩); obtain ⟨q2c, q2f⟩ := q2; have B3 := Lib.hid (below_own (B2.alloc (Nat.le_trans (Nat.le_refl _) hsz2) (.cells #[.int .i64 (at_ : Int)] 3)) (o2.alloc (.cells #[.int .i64 (at_ : Int)] 3)) (Nat.le_refl _) hg3 (by simp; omega)); obtain ⟨A3, n3', c3, rfl⟩ : ∃ A n c, v3 = .slice A n c := (by obtain ⟨A, c, e, _⟩ := o3.slice; exact ⟨A, _, c, e⟩); have HO3 := Lib.hid o3))
    obtain ⟨hn3, g3, b3⟩ := Own.gsl HO3.out
    have R4 := HR1.out.idleT (w2 := w3) (idle' := s.idle ++ [at_]) ((Chg.of_below (fun k i => slFp 1 Ai 0 ci k i ∨ W1.heap.size ≤ k) B3.out)) g3 fun k i hh => .inr (b3 k i hh)
    rw [← hn3] at R4
    have fin : PutP w G N s F key (.returned (.int .i64 0)) (w3.setCell ⟨G, 2, none⟩ (.slice A3 n3' c3)) := by
      refine ⟨by rw [HRR.out], _, ⟨gp, b, n, A3, c3, ?_, hn, fun _ _ => Iff.rfl⟩, ?_, fun k i hk => ?_⟩
      · rw [HT.out]
        have : LruR (w3.setCell ⟨G, 2, none⟩ (.slice A3 n3' c3)) G (backT s key at_).ps (backT s key at_).idle (slotS s) gp b n A3 c3 := by rw [hidl', hps]; exact R4
        exact this.lru hsl hok' hoks' HL.out
      · exact (HK.out.trans (Chg.of_below F B3.out) fun _ _ _ h => h).trans (Chg.setCell F w3 ((hF _ _).2 (.inl rfl)) _) fun _ _ _ h => h
      · rcases hk with e | e | e | e
        · exact .inl ((hF k i).2 (.inl e))
        · exact .inl ((hF k i).2 (.inr (.inl e)))
        · exact .inl ((hF k i).2 (.inr (.inr (.inl e))))
        · exact .inr (by have := b3 k i e; omega)
    have HFi := Lib.hid fin
    clear fin R4 g3 o3 hg3 hl3
    go_wp2_with fail
    go_ret
    exact HFi.out
  · have hidl' : (backT s key at_).idle = s.idle := by rw [hidl, if_neg hz]
    have hnz : (R - 1 == 0) = false := by rw [beq_eq_false_iff_ne]; exact hz
    have fin : PutP w G N s F key (.returned (.int .i64 0)) W1 := by
      refine ⟨by rw [HRR.out], _, ⟨gp, b, n, Ai, ci, ?_, hn, fun _ _ => Iff.rfl⟩, HK.out, fun k i hk => .inl ((hF k i).2 hk)⟩
      rw [HT.out]
      have : LruR W1 G (backT s key at_).ps (backT s key at_).idle (slotS s) gp b n Ai ci := by rw [hidl', hps]; exact R1
      exact this.lru hsl hok' hoks' HL.out
    have HFi := Lib.hid fin
    clear fin h hs hp hT hR R1 k1 hlen' hidl hr0 hRd hidl' hz h0 hps hsl hok' hoks' HK
    go_enter Try.func63, Try.ntmps63
    go_wp2_with fail
    go_ret
    exact HFi.out
/-- Put, whatever the key -/
theorem put_any (key : Int) (h : LruAt w G N s F) (hk : kOk key) (hN : (N : Int) ≤ 9223372036854775807) (hr : refsLe s N) :
    Calls Try.prog 63 #[.pointer (some ⟨G, 0, none⟩), kV key] w (PutP w G N s F key) := by
  obtain ⟨gp, b, n, Ai, ci, h, hn, hF⟩ := h
  by_cases hc : ∀ i, slotS s key = some i → (plcAt s i).2 = 0
  · exact put_cold key h hk hn hF hc
  · obtain ⟨i, hc⟩ := Classical.not_forall.1 hc
    obtain ⟨hs, h0⟩ := Classical.not_imp.1 hc
    exact put_back key h hk hn hF hs h0 (by have := refsLe_at (by omega) hr i; omega) h.idle_len
end
end Go.Proofs.Ytiidheknlacioaa.KS
