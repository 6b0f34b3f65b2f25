/- WalkLeave: a walk that is made, left at the k-th block, and gone on by Next. -/
import Derived.Test.YtdhccjmokmdboaaDoorWkL
namespace Go.Proofs.YtdhccjmokmdboaaDoor
open Go.RowKit
set_option linter.unusedVariables false
set_option linter.unusedSimpArgs false
attribute [local go_sem] Oper.semAt_some
section
variable {A : Option Addr} {c L : Nat} {ws : List Nat} {w : World}
set_option maxRecDepth 100000 in
set_option maxHeartbeats 1000000 in
theorem leave_yes (nn ss : Nat) (k : Int) (HL : Hid (L = ws.length)) (HZ : Hid (ws.length ≤ 9223372036854775807)) (HB : Hid (∀ x ∈ ws, x < 18446744073709551616)) (HR : Hid (Rd encU w A ws)) (HT : Hid (TabW w)) (HTl : Hid (0 < w.heap.size)) (hLb : L ≤ 17592186044416) (HN : Hid (newE (nn : Int) (ss : Int) ws = 0)) (hnn : nn ≤ 65536) :
    Calls Tryd.prog 5 #[.int .i64 (nn : Int), .slice A L c, .int .i64 (ss : Int), .int .i64 k] w fun e w' => e = .returned (.bool true) ∧ Below w.heap.size w w' := by
  have OW := Lib.hid (fun (W : World) (h : Rd encU W A ws) => by have h1 := own13_any A c ws (by have := HL.out; omega) W h; rw [← HL.out] at h1; exact (callsIn_wide (n := 8)).2 h1)
  have NWg := Lib.hid (fun (W : World) (A1 : Option Addr) (c1 : Nat) (h : Rd encU W A1 ws) (ht : TabW W) => by have h1 := wnew_any (A := A1) (c := c1) (nn : Int) (ss : Int) HZ.out HB.out h ht; rw [← HL.out, Int.toNat_natCast, Int.toNat_natCast] at h1; exact (callsIn_wide (n := 8)).2 h1)
  obtain ⟨bits, hbits⟩ : ∃ bits, bits = walkL ws nn ss := ⟨_, rfl⟩
  rw [← hbits] at NWg
  obtain ⟨T, hT⟩ : ∃ T, T = bits.length := ⟨_, rfl⟩
  have hTb : T ≤ 65536 := by rw [hT, hbits, walkL_len]; exact Nat.le_trans (setsL_len _ _) hnn
  have HTb := Lib.hid hT
  have X3 := Lib.hid (fun (W : World) (G : Nat) (hG : G = W.heap.size) (ht : TabW (W.alloc (.cells #[.int .u64 1] 28))) => show CallsIn Fence.wide 8 Tryd.prog 7 #[.int .i64 1, .slice (some ⟨G, 0, none⟩) 1 1, .int .i64 0] (W.alloc (.cells #[.int .u64 1] 28)) (fun e w' => ∃ K3, e = .returned (.tuple #[.pointer (some ⟨K3, 0, none⟩), .int .i64 0]) ∧ (CallsIn Fence.wide 8 Tryd.prog 11 #[.pointer (some ⟨K3, 0, none⟩)] w' fun e w2 => e = .returned (.int .i64 1) ∧ w' = w2) ∧ Below (W.alloc (.cells #[.int .u64 1] 28)).heap.size (W.alloc (.cells #[.int .u64 1] 28)) w') from by
    subst hG
    refine (callsIn_wide (n := 8)).2 ((wnew_any (A := some ⟨W.heap.size, 0, none⟩) (c := 1) (ws := [1]) 1 0 (by simp) (by simp) (Rd.one encU W 28 1) ht).mono ?_)
    rintro e w' (⟨h0, _⟩ | ⟨_, _, K3, A5, c5, rfl, hk, hB, _, _⟩)
    · exact absurd x13_new h0
    · refine ⟨K3, rfl, ?_, hB⟩
      have hl := (callsIn_wide (n := 8)).2 (wleft_any hk)
      rw [show (walkL [1] (Int.toNat 1) (Int.toNat 0)).length = 1 from x13_walk] at hl
      exact hl)
  clear hbits hT
  have hnil : ∀ (G : Nat) (W : World), (binOp .eql 42 (.func (.func 25) #[] #[.pointer (some ⟨G, 0, none⟩)]) .nilFunc).run Tryd.prog W = .ok (.bool false) W := fun _ _ => by kernel_rfl
  have RD0 : Rd encU ((w.alloc (.cells #[.int .i64 k] 3)).alloc (.cells #[.bool false] 4)) A ws := (HR.out.alloc _).alloc _
  have B00 : Below w.heap.size w ((w.alloc (.cells #[.int .i64 k] 3)).alloc (.cells #[.bool false] 4)) := ((Below.refl _ w).alloc (Nat.le_refl _) _).alloc (by simp) _
  have TB0 : TabW ((w.alloc (.cells #[.int .i64 k] 3)).alloc (.cells #[.bool false] 4)) := HT.out.below B00 HTl.out
  have Ht0 : 0 < ((w.alloc (.cells #[.int .i64 k] 3)).alloc (.cells #[.bool false] 4)).heap.size := Nat.lt_of_lt_of_le HTl.out B00.size
  refine (callsIn_wide (n := 9)).1 ?_
  refine callsIn_of_wp_marks Tryd.func5 rfl trivial ?_ rfl
  simp only [Tryd.ntmps5, List.size_toArray, List.length_cons, List.length_nil, Nat.reduceAdd, Nat.reduceSub, Array.replicate_succ, Array.replicate_zero, List.push_toArray, List.append_toArray, List.nil_append, List.cons_append]
  by_cases hk : 0 < k
  · skip
    gi_wp2_with (first | (refine ⟨trivial, ?_⟩; gi_at_call 8; (with_reducible refine (OW.out _ RD0).mono ?_); rintro e w1 ⟨A1, c1, rfl, hown, B1⟩; have RDo1 := own13_rd (A := A1) (c := c1) (by rw [← HL.out]; exact hown); have TB1 := TB0.below B1 Ht0; have HB1 := Lib.hid B1; clear hown B1) | (refine ⟨trivial, ?_⟩; gi_at_call 7; (with_reducible refine (NWg.out _ A1 c1 RDo1 TB1).mono ?_); rintro e w2 hnew; obtain ⟨h0, _⟩ | ⟨_, _, K, A2, c2, rfl, hK, B2, hKl, hfr⟩ := hnew; exact absurd HN.out h0; have hs1 := HB1.out.size; have Bw2 := HB1.out.trans (B2.mono hs1); have RD2 := RD0.below Bw2; have TB2 := TB0.below Bw2 Ht0; have Ht2 := Nat.lt_of_lt_of_le Ht0 Bw2.size; have HB2 := Lib.hid Bw2; have HK := Lib.hid hK; have HKl := Lib.hid (Nat.le_trans hs1 hKl); clear hs1 Bw2 B2 hK hKl hfr) | (refine ⟨trivial, ?_⟩; gi_at_call 8; (with_reducible refine (OW.out _ RD2).mono ?_); rintro e w3 ⟨A3, c3, rfl, hown, B3⟩; have RDo3 := own13_rd (A := A3) (c := c3) (by rw [← HL.out]; exact hown); have TB3 := TB2.below B3 Ht2; have HB3 := Lib.hid B3; clear hown B3) | (refine ⟨trivial, ?_⟩; gi_at_call 7; (with_reducible refine (NWg.out _ A3 c3 RDo3 TB3).mono ?_); rintro e w4 hnew; obtain ⟨h0, _⟩ | ⟨_, _, K2, A4, c4, rfl, hK2, B4, hKl2, hfr2⟩ := hnew; exact absurd HN.out h0; have hs3 := HB3.out.size; have Bw4 := HB3.out.trans (B4.mono hs3); have TB4 := TB2.below Bw4 Ht2; have Ht4 := Nat.lt_of_lt_of_le Ht2 Bw4.size; have HB4 := Lib.hid Bw4; have HK2 := Lib.hid hK2; have HKl2 := Lib.hid (Nat.le_trans hs3 hKl2); clear hs3 Bw4 B4 hK2 hKl2 hfr2) | (refine ⟨trivial, ?_⟩; gi_at_call 7; (with_reducible refine (X3.out (w4.alloc (.cells #[.pointer (some ⟨K2, 0, none⟩)] 23)) (w4.heap.size + 1) (by simp) (TB4.below (((Below.refl w4.heap.size w4).alloc (Nat.le_refl _) (.cells #[.pointer (some ⟨K2, 0, none⟩)] 23)).alloc (by simp) (.cells #[.int .u64 1] 28)) Ht4)).mono ?_); rintro e w6 ⟨K3, rfl, hL3, B6⟩; have L7 := leave_start k HK.out HK2.out HB2.out HB4.out B6 HKl.out HKl2.out; have vx6 : w6.cell? ⟨w4.heap.size, 0, none⟩ = some (.pointer (some ⟨K2, 0, none⟩)) := (((Blk.new w4 23 #[.pointer (some ⟨K2, 0, none⟩)]).alloc (.cells #[.int .u64 1] 28)).below B6 (by simp; omega)).cell 0; have HX3 := Lib.hid hL3; have LE8 := Lib.hid ((callsIn_wide (n := 8)).2 (wleft_any (HK2.out.below ((((Below.refl w4.heap.size w4).alloc (Nat.le_refl _) (.cells #[.pointer (some ⟨K2, 0, none⟩)] 23)).alloc (by simp) (.cells #[.int .u64 1] 28)).trans (B6.mono (by simp; omega)))))); rw [← HTb.out] at LE8; have kb7 : (w6.alloc (.cells #[.int .i64 0] 3)).cell? ⟨w.heap.size, 0, none⟩ = some (.int .i64 k) := L7.kb.cell 0; have sx7 : (w6.alloc (.cells #[.int .i64 0] 3)).cell? ⟨w6.heap.size, 0, none⟩ = some (.int .i64 0) := L7.sx.cell 0; have HL7 := Lib.hid L7; clear L7 hL3 B6) | (refine ⟨trivial, ?_⟩; gi_at_call 9; (with_reducible refine ((callsIn_wide (n := 8)).2 (num13_any _ _)).mono ?_); rintro e w' ⟨rfl, rfl⟩) | (refine ⟨trivial, ?_⟩; gi_at_call 11; (with_reducible refine (HX3.out).mono ?_); rintro e w' ⟨rfl, rfl⟩) | (refine ⟨trivial, ?_⟩; gi_at_call 11; (with_reducible refine (LE8.out).mono ?_); rintro e w' ⟨rfl, rfl⟩) | (refine ⟨trivial, ?_⟩; gi_at_call 15; (with_reducible refine ((callsIn_wide (n := 8)).2 (wrest_any _)).mono ?_); rintro e w8 ⟨rfl, rfl⟩))
    obtain ⟨V8, hV8⟩ : ∃ V8, V8 = (w6.alloc (.cells #[.int .i64 0] 3)).alloc (.cells #[.pointer (some ⟨K, 0, none⟩)] 23) := ⟨_, rfl⟩
    rw [← hV8]
    have s8 : V8.heap.size = w6.heap.size + 2 := by rw [hV8]; simp
    have L8 : LvP w w.heap.size (w.heap.size + 1) w4.heap.size w6.heap.size K K2 (w6.heap.size + 1) k 0 bits bits V8 := by
      rw [hV8]
      exact HL7.out.chg (Chg.alloc (fun _ _ => False) _ _) fun _ _ h => h.elim
    have bx8 : Blk V8 (w6.heap.size + 1) 23 #[.pointer (some ⟨K, 0, none⟩)] := by
      have := Blk.new (w6.alloc (.cells #[.int .i64 0] 3)) 23 #[.pointer (some ⟨K, 0, none⟩)]
      rw [World.size_alloc] at this
      rw [hV8]
      exact this
    have HL8 := Lib.hid L8
    have HBX := Lib.hid bx8
    have HS8 := Lib.hid s8
    have hk' : ((0 : Nat) : Int) < k := hk
    obtain ⟨LL, hLL⟩ : ∃ LL : Nat → List Nat → List Nat → World → Prop, LL = fun seen bw bv W => LvP w w.heap.size (w.heap.size + 1) w4.heap.size w6.heap.size K K2 (w6.heap.size + 1) k seen bw bv W ∧ Blk W (w6.heap.size + 1) 23 #[.pointer (some ⟨K, 0, none⟩)] := ⟨_, rfl⟩
    have LLe := Lib.hid (show ∀ seen bw bv W, LL seen bw bv W ↔ LvP w w.heap.size (w.heap.size + 1) w4.heap.size w6.heap.size K K2 (w6.heap.size + 1) k seen bw bv W ∧ Blk W (w6.heap.size + 1) 23 #[.pointer (some ⟨K, 0, none⟩)] from fun _ _ _ _ => by rw [hLL])
    have st : ∀ seen bw bv, Stable2 V8.heap.size (LL seen bw bv) := fun seen bw bv W W' h hc => by
      rw [LLe.out] at h ⊢
      exact ⟨h.1.chg hc fun k i hk => by have := HS8.out; omega, hc.blk h.2 fun i hk => by have := HS8.out; omega⟩
    have ST := Lib.hid st
    have H0 := Lib.hid ((LLe.out _ _ _ _).2 ⟨L8, bx8⟩)
    clear hLL st L8 bx8 s8 hV8 HL7
    refine rf_free (σ := List Nat) (α := Nat) rfl (by omega) (gf := 25) (lb := #[.pointer (some ⟨w6.heap.size + 1, 0, none⟩)]) rfl trivial (enters_of Tryd.func25 (by kernel_rfl) rfl)
      (fun x => #[.int .i64 (x : Int)]) (fun _ => rfl)
      (fun rest b W => rest.length + 1 ≤ T ∧ ((T - (rest.length + 1) : Nat) : Int) < k ∧ LL (T - (rest.length + 1)) rest (b :: rest) W)
      (fun rest b W => rest.length ≤ T ∧ ((T - rest.length : Nat) : Int) < k ∧ LL (T - rest.length) rest rest W)
      (fun W => LL T [] [] W) (fun c W => c = .exit 0 ∧ ∃ rest : List Nat, rest.length ≤ T ∧ ((T - rest.length : Nat) : Int) = k ∧ LL (T - rest.length) rest rest W)
      (fun _ _ W W' h hc => ⟨h.1, h.2.1, ST.out _ _ _ W W' h.2.2 hc⟩) (fun _ _ W W' h hc => ⟨h.1, h.2.1, ST.out _ _ _ W W' h.2.2 hc⟩) (ST.out _ _ _) (fun _ W W' h hc => ⟨h.1, h.2.elim fun rest h => ⟨rest, h.1, h.2.1, ST.out _ _ _ W W' h.2.2 hc⟩⟩) ?round ?seq ?done ?stop
    case seq =>
      intro l Lp Dn W hLp hDn hY hB hsz hl
      have hW0 : LL (T - bits.length) bits bits W := by
        rw [← HTb.out, Nat.sub_self]
        have h0 := (LLe.out _ _ _ _).1 H0.out
        exact (LLe.out _ _ _ _).2 ⟨h0.1.chg (Chg.of_below (fun _ _ => False) hB) fun _ _ h => h.elim, h0.2.below hB h0.2.lt⟩
      refine (rest_iter (9 - 1) (by omega) l (w6.heap.size + 1) K (fun k => k < w6.heap.size) (fun rest W => rest.length ≤ T ∧ (rest = [] ∨ ((T - rest.length : Nat) : Int) < k) ∧ LL (T - rest.length) rest rest W)
        (fun b rest W => rest.length + 1 ≤ T ∧ ((T - (rest.length + 1) : Nat) : Int) < k ∧ LL (T - (rest.length + 1)) rest (b :: rest) W) (fun W => LL T [] [] W) Lp (fun W => ∃ c, (c = .exit 0 ∧ ∃ rest : List Nat, rest.length ≤ T ∧ ((T - rest.length : Nat) : Int) = k ∧ LL (T - rest.length) rest rest W) ∧ Dn c W)
        (fun rest W h => by
          have h0 := (LLe.out _ _ _ _).1 h.2.2
          exact ⟨h0.1.wk, h0.2.cell 0⟩)
        ?_ ?_ ?_ ?_ bits W ⟨by rw [HTb.out]; exact Nat.le_refl _, .inr (by rw [← HTb.out, Nat.sub_self]; exact hk'), hW0⟩ hl).mono ?_
      · intro b rest W W' A' c' hp hw' hc' hbd
        have h0 := (LLe.out _ _ _ _).1 hp.2.2
        have hlt := h0.1.lt
        refine ⟨hp.1, ?_, (LLe.out _ _ _ _).2 ⟨h0.1.next1 hc' hw' hbd, hc'.blk h0.2 fun _ e => by omega⟩⟩
        rcases hp.2.1 with h | h
        · cases h
        · exact h
      · intro W W' A' c' hp hw' hc' hbd
        have h0 := (LLe.out _ _ _ _).1 hp.2.2
        have hlt := h0.1.lt
        exact (LLe.out _ _ _ _).2 ⟨h0.1.next1 hc' hw' hbd, hc'.blk h0.2 fun _ e => by omega⟩
      · intro W W' h hc
        have h8 := HL8.out.lt
        have h9 := HS8.out
        exact hLp W W' _ h hc (fun _ e => by omega) (fun _ e => by omega)
      · intro b rest W hi hlp
        refine (hY rest b W hi hlp).mono ?_
        rintro e W' (⟨h1, h2, h3⟩ | ⟨h1, c, h2, h3⟩)
        · exact .inl ⟨h1, ⟨rest, Nat.le_refl _, h2.1, .inr h2.2.1, h2.2.2⟩, h3⟩
        · exact .inr ⟨h1, c, h2, h3⟩
      · rintro e W' ⟨h1, h2 | ⟨c, h2, h3⟩⟩
        · exact ⟨h1, .inl h2⟩
        · exact ⟨h1, .inr ⟨c, h2, h3⟩⟩
    case round =>
      intro l u x W hi
      gi_wp2
      refine ⟨trivial, fun W2 hs2 hi2 => ?_⟩
      obtain ⟨hr, hsk, hLL2⟩ := hi2
      have h2 := (LLe.out _ _ _ _).1 hLL2
      obtain ⟨S, hS⟩ : ∃ S, S = T - (u.length + 1) := ⟨_, rfl⟩
      rw [← hS] at h2 hsk
      obtain ⟨S1, hS1⟩ : ∃ S1, S1 = S + 1 := ⟨_, rfl⟩
      have hsw : IntKind.i64.wrap ((S : Int) + 1) = (S1 : Int) := by rw [i64_in_ _ (by omega)]; omega
      have vx2 : W2.cell? ⟨w4.heap.size, 0, none⟩ = some (.pointer (some ⟨K2, 0, none⟩)) := h2.1.vx.cell 0
      obtain ⟨A8, c8, hw8, hb8⟩ := h2.1.wv
      have N20 := wnext_any hw8
      simp only [nxV] at N20
      have N2 := Lib.hid N20
      have HB8 := Lib.hid hb8
      have H2 := Lib.hid h2
      have HSS := Lib.hid hS
      have HSS1 := Lib.hid hS1
      have HSu := Lib.hid (show S1 = T - u.length ∧ u.length ≤ T from by omega)
      clear hi hLL2 h2 hS hS1 hw8 hb8 N20
      have key : ∀ (W9 : World) A10 c10, WkIn W9 K2 u A10 c10 → Chg (fun k _ => k = K2) W2 W9 → (∀ k i, slFp 1 A10 0 c10 k i → slFp 1 A8 0 c8 k i) →
          LL S1 u u (W9.setCell ⟨w6.heap.size, 0, none⟩ (.int .i64 (S1 : Int))) ∧ W9.cell? ⟨w6.heap.size, 0, none⟩ = some (.int .i64 (S : Int)) ∧ W9.frozen? ⟨w6.heap.size, 0, none⟩ = false ∧ (W9.setCell ⟨w6.heap.size, 0, none⟩ (.int .i64 (S1 : Int))).cell? ⟨w.heap.size, 0, none⟩ = some (.int .i64 k) ∧
          (W9.setCell ⟨w6.heap.size, 0, none⟩ (.int .i64 (S1 : Int))).heap[V8.heap.size]? = W2.heap[V8.heap.size]? ∧ (W9.setCell ⟨w6.heap.size, 0, none⟩ (.int .i64 (S1 : Int))).heap[V8.heap.size + 1]? = W2.heap[V8.heap.size + 1]? := by
        intro W9 A10 c10 hw hc hs
        have hlt := H2.out.1.lt
        have h9 := HS8.out
        have L9 := H2.out.1.next2 hc hw (fun k i hh => HB8.out k i (hs k i hh))
        have L10 := L9.see
        rw [← HSS1.out] at L10
        have b9 := hc.blk H2.out.2 fun _ e => by omega
        have cS : Chg (fun k _ => k = w6.heap.size) W9 (W9.setCell ⟨w6.heap.size, 0, none⟩ (.int .i64 (S1 : Int))) := Chg.setCell (fun k _ => k = w6.heap.size) W9 (g := w6.heap.size) (i := 0) rfl _
        have hz := hc.size
        exact ⟨(LLe.out _ _ _ _).2 ⟨L10, cS.blk b9 fun _ e => by omega⟩, L9.sx.cell 0, L9.sx.frozen 0, L10.kb.cell 0,
          (cS.far _ (by omega) fun _ e => by omega).trans (hc.far _ (by omega) fun _ e => by omega), (cS.far _ (by omega) fun _ e => by omega).trans (hc.far _ (by omega) fun _ e => by omega)⟩
      have KEY := Lib.hid key
      clear key
      by_cases hkk : (S1 : Int) = k
      · have hkb : ((S1 : Int) == k) = true := by rw [beq_iff_eq]; exact hkk
        have HKK := Lib.hid hkk
        clear hkk
        gi_wp2_with (first | (refine ⟨trivial, ?_⟩; gi_at_call 12; refine (CallsIn.inRound l (callsIn_wide.2 N2.out)).mono ?_; rintro e w9 ⟨rfl, A10, c10, h10, hc10, hs10⟩; obtain ⟨q1, q2, q3, q4, q5, q6⟩ := KEY.out w9 A10 c10 h10 hc10 hs10; have HLL := Lib.hid q1; have HF1 := Lib.hid q5; have HF2 := Lib.hid q6; clear q1 q5 q6 h10 hc10 hs10) | (refine ⟨trivial, ?_⟩; gi_at_call 9; refine (CallsIn.inRound l (callsIn_wide.2 (num13_any _ _))).mono ?_; rintro e w' ⟨rfl, rfl⟩))
        refine ⟨HF1.out, HF2.out, rfl, u, HSu.out.2, by rw [← HSu.out.1]; exact HKK.out, by rw [← HSu.out.1]; exact HLL.out⟩
      · have hkb : ((S1 : Int) == k) = false := by rw [beq_eq_false_iff_ne]; exact hkk
        have HKK := Lib.hid hkk
        clear hkk
        gi_wp2_with (first | (refine ⟨trivial, ?_⟩; gi_at_call 12; refine (CallsIn.inRound l (callsIn_wide.2 N2.out)).mono ?_; rintro e w9 ⟨rfl, A10, c10, h10, hc10, hs10⟩; obtain ⟨q1, q2, q3, q4, q5, q6⟩ := KEY.out w9 A10 c10 h10 hc10 hs10; have HLL := Lib.hid q1; have HF1 := Lib.hid q5; have HF2 := Lib.hid q6; clear q1 q5 q6 h10 hc10 hs10) | (refine ⟨trivial, ?_⟩; gi_at_call 9; refine (CallsIn.inRound l (callsIn_wide.2 (num13_any _ _))).mono ?_; rintro e w' ⟨rfl, rfl⟩))
        refine ⟨HF1.out, HF2.out, HSu.out.2, by rw [← HSu.out.1]; have := HKK.out; have := HSS1.out; omega, by rw [← HSu.out.1]; exact HLL.out⟩
    case done =>
      intro W hEn hD
      obtain ⟨r0, hr0⟩ : ∃ r0 : List Nat, r0 = [] := ⟨_, rfl⟩
      have hLL0 : LL (T - r0.length) r0 r0 W := by rw [hr0]; exact hEn
      have hrl : r0.length ≤ T := by rw [hr0]; simp
      have hco : ((T - r0.length : Nat) : Int) = k ∨ r0.length = 0 := .inr (by rw [hr0]; rfl)
      clear hr0 hEn
      have h0 := (LLe.out _ _ _ _).1 hLL0
      obtain ⟨S0, hS0⟩ : ∃ S0, S0 = T - r0.length := ⟨_, rfl⟩
      rw [← hS0] at h0 hco
      have sx0 : W.cell? ⟨w6.heap.size, 0, none⟩ = some (.int .i64 (S0 : Int)) := h0.1.sx.cell 0
      have kb0 : W.cell? ⟨w.heap.size, 0, none⟩ = some (.int .i64 k) := h0.1.kb.cell 0
      have HS0 := Lib.hid (show r0.length = T - S0 ∧ S0 ≤ T from by omega)
      have HT8 := Lib.hid h0.1
      have HDD := Lib.hid hD
      have hco2 := Lib.hid hco
      have hS0e := Lib.hid hS0
      clear hLL0 h0 hD hS0 hrl hco
      by_cases hsk : (S0 : Int) = k
      · have e1 : ((S0 : Int) != k) = false := by simp [hsk]
        clear hsk
        gi_wp2
        gi_loopw [21] (fun t21 wr => ∃ (i : Nat) (rest : List Nat), i ≤ T + 1 ∧ t21 = .int .i64 (i : Int) ∧ rest.length = T - i ∧ Hid (LvP w w.heap.size (w.heap.size + 1) w4.heap.size w6.heap.size K K2 (w6.heap.size + 1) k S0 rest rest wr) ∧ Hid (wr.heap[V8.heap.size]? = some (.deferred (some [])))) (fun t21 _ => T + 2 - (intOf t21).toNat)
        case atStart => exact ⟨S0, r0, by have := HS0.out.2; omega, rfl, HS0.out.1, HT8, HDD⟩
        case round =>
          obtain ⟨i, rest, hi, rfl, hr, hL, hD⟩ := hrel
          by_cases hlt : i ≤ T
          · have hlt' : (i : Int) ≤ (T : Int) := by omega
            obtain ⟨A7, c7, hw7, hb7⟩ := hL.out.wk
            have N10 := wnext_any hw7
            cases rest with
            | nil =>
              obtain rfl : i = T := by simp at hr; omega
              simp only [nxV] at N10
              have N1 := Lib.hid ((callsIn_wide (n := 8)).2 N10)
              clear N10 hw7
              gi_wp2_with (first | (refine ⟨trivial, ?_⟩; gi_at_call 12; (with_reducible refine (N1.out).mono ?_); rintro e w8 ⟨rfl, A9, c9, h9, hc9, hs9⟩; have L8 := hL.out.next1 hc9 h9 (fun k i hh => hb7 k i (hs9 k i hh)); have vx8 : w8.cell? ⟨w4.heap.size, 0, none⟩ = some (.pointer (some ⟨K2, 0, none⟩)) := L8.vx.cell 0; obtain ⟨A8, c8, hw8, hb8⟩ := L8.wv; have N20 := wnext_any hw8; simp only [nxV] at N20; have N2 := Lib.hid ((callsIn_wide (n := 8)).2 N20); have HL8 := Lib.hid L8; have HB8 := Lib.hid hb8; have HC9 := Lib.hid hc9; clear h9 hc9 hs9 L8 hw8 hb8 N20) | (refine ⟨trivial, ?_⟩; gi_at_call 12; (with_reducible refine (N2.out).mono ?_); rintro e w9 ⟨rfl, A10, c10, h10, hc10, hs10⟩; have HL9 := Lib.hid (HL8.out.next2 hc10 h10 (fun k i hh => HB8.out k i (hs10 k i hh))); have HC10 := Lib.hid hc10; clear h10 hc10 hs10) | (refine ⟨trivial, ?_⟩; gi_at_call 9; (with_reducible refine ((callsIn_wide (n := 8)).2 (num13_any _ _)).mono ?_); rintro e w' ⟨rfl, rfl⟩))
              go_roundw
              case rel => exact ⟨i + 1, _, by omega, by go_num, by simp, HL9, Lib.hid (HC10.out.heap_keep (fun _ e => by have := HL9.out.lt; have := HS8.out; omega) (HC9.out.heap_keep (fun _ e => by have := HL9.out.lt; have := HS8.out; omega) hD.out))⟩
              case measure => first | (simp [intOf]; done) | (simp [intOf]; omega)
            | cons b rest =>
              have hne : ((i : Int) == (T : Int)) = false := by rw [beq_eq_false_iff_ne]; simp at hr; omega
              simp only [nxV] at N10
              have N1 := Lib.hid ((callsIn_wide (n := 8)).2 N10)
              clear N10 hw7
              gi_wp2_with (first | (refine ⟨trivial, ?_⟩; gi_at_call 12; (with_reducible refine (N1.out).mono ?_); rintro e w8 ⟨rfl, A9, c9, h9, hc9, hs9⟩; have L8 := hL.out.next1 hc9 h9 (fun k i hh => hb7 k i (hs9 k i hh)); have vx8 : w8.cell? ⟨w4.heap.size, 0, none⟩ = some (.pointer (some ⟨K2, 0, none⟩)) := L8.vx.cell 0; obtain ⟨A8, c8, hw8, hb8⟩ := L8.wv; have N20 := wnext_any hw8; simp only [nxV] at N20; have N2 := Lib.hid ((callsIn_wide (n := 8)).2 N20); have HL8 := Lib.hid L8; have HB8 := Lib.hid hb8; have HC9 := Lib.hid hc9; clear h9 hc9 hs9 L8 hw8 hb8 N20) | (refine ⟨trivial, ?_⟩; gi_at_call 12; (with_reducible refine (N2.out).mono ?_); rintro e w9 ⟨rfl, A10, c10, h10, hc10, hs10⟩; have HL9 := Lib.hid (HL8.out.next2 hc10 h10 (fun k i hh => HB8.out k i (hs10 k i hh))); have HC10 := Lib.hid hc10; clear h10 hc10 hs10) | (refine ⟨trivial, ?_⟩; gi_at_call 9; (with_reducible refine ((callsIn_wide (n := 8)).2 (num13_any _ _)).mono ?_); rintro e w' ⟨rfl, rfl⟩))
              go_roundw
              case rel => exact ⟨i + 1, _, by omega, by go_num, by simp at hr ⊢; omega, HL9, Lib.hid (HC10.out.heap_keep (fun _ e => by have := HL9.out.lt; have := HS8.out; omega) (HC9.out.heap_keep (fun _ e => by have := HL9.out.lt; have := HS8.out; omega) hD.out))⟩
              case measure => first | (simp [intOf]; done) | (simp [intOf]; omega)
          · have hgt : ¬ (i : Int) ≤ (T : Int) := by omega
            have rb0 := hL.out.rb.cell 0
            have rbf := hL.out.rb.frozen 0
            have FIN := Lib.hid hL.out.fin
            gi_wp2
            have hD3 := (Chg.setCell (fun k _ => k = w.heap.size + 1) wr (g := w.heap.size + 1) (i := 0) rfl (.bool true)).heap_keep (k := V8.heap.size) (fun _ e => by have := hL.out.lt; have := HS8.out; omega) hD.out
            have cD := Chg.putObj (fun k _ => k = V8.heap.size) (.deferred none) hD3 rfl rfl
            refine ⟨by simp, .inl ⟨_, _, rfl, run_takeDeferred hD3, ?_⟩⟩
            unfold LeavesInM LeavesIn
            exact ⟨_, results_cell1 rfl _ _ _ ⟨w.heap.size + 1, 0, none⟩ (.bool true) rfl (load_bool (cD.cell (fun e => by have := hL.out.lt; have := HS8.out; omega) FIN.out.1)), rfl, FIN.out.2.trans (cD.below (by have := hL.out.lt; simp; omega) fun k i hk e => by have := hL.out.lt; have := HS8.out; omega)⟩
      · have e1 : ((S0 : Int) != k) = true := by rw [bne_iff_ne]; exact hsk
        have e2 : ((S0 : Int) != (T : Int)) = false := by
          rcases hco2.out with h | h
          · exact absurd h hsk
          · rw [hS0e.out, h]; simp
        clear hsk
        gi_wp2
        gi_loopw [21] (fun t21 wr => ∃ (i : Nat) (rest : List Nat), i ≤ T + 1 ∧ t21 = .int .i64 (i : Int) ∧ rest.length = T - i ∧ Hid (LvP w w.heap.size (w.heap.size + 1) w4.heap.size w6.heap.size K K2 (w6.heap.size + 1) k S0 rest rest wr) ∧ Hid (wr.heap[V8.heap.size]? = some (.deferred (some [])))) (fun t21 _ => T + 2 - (intOf t21).toNat)
        case atStart => exact ⟨S0, r0, by have := HS0.out.2; omega, rfl, HS0.out.1, HT8, HDD⟩
        case round =>
          obtain ⟨i, rest, hi, rfl, hr, hL, hD⟩ := hrel
          by_cases hlt : i ≤ T
          · have hlt' : (i : Int) ≤ (T : Int) := by omega
            obtain ⟨A7, c7, hw7, hb7⟩ := hL.out.wk
            have N10 := wnext_any hw7
            cases rest with
            | nil =>
              obtain rfl : i = T := by simp at hr; omega
              simp only [nxV] at N10
              have N1 := Lib.hid ((callsIn_wide (n := 8)).2 N10)
              clear N10 hw7
              gi_wp2_with (first | (refine ⟨trivial, ?_⟩; gi_at_call 12; (with_reducible refine (N1.out).mono ?_); rintro e w8 ⟨rfl, A9, c9, h9, hc9, hs9⟩; have L8 := hL.out.next1 hc9 h9 (fun k i hh => hb7 k i (hs9 k i hh)); have vx8 : w8.cell? ⟨w4.heap.size, 0, none⟩ = some (.pointer (some ⟨K2, 0, none⟩)) := L8.vx.cell 0; obtain ⟨A8, c8, hw8, hb8⟩ := L8.wv; have N20 := wnext_any hw8; simp only [nxV] at N20; have N2 := Lib.hid ((callsIn_wide (n := 8)).2 N20); have HL8 := Lib.hid L8; have HB8 := Lib.hid hb8; have HC9 := Lib.hid hc9; clear h9 hc9 hs9 L8 hw8 hb8 N20) | (refine ⟨trivial, ?_⟩; gi_at_call 12; (with_reducible refine (N2.out).mono ?_); rintro e w9 ⟨rfl, A10, c10, h10, hc10, hs10⟩; have HL9 := Lib.hid (HL8.out.next2 hc10 h10 (fun k i hh => HB8.out k i (hs10 k i hh))); have HC10 := Lib.hid hc10; clear h10 hc10 hs10) | (refine ⟨trivial, ?_⟩; gi_at_call 9; (with_reducible refine ((callsIn_wide (n := 8)).2 (num13_any _ _)).mono ?_); rintro e w' ⟨rfl, rfl⟩))
              go_roundw
              case rel => exact ⟨i + 1, _, by omega, by go_num, by simp, HL9, Lib.hid (HC10.out.heap_keep (fun _ e => by have := HL9.out.lt; have := HS8.out; omega) (HC9.out.heap_keep (fun _ e => by have := HL9.out.lt; have := HS8.out; omega) hD.out))⟩
              case measure => first | (simp [intOf]; done) | (simp [intOf]; omega)
            | cons b rest =>
              have hne : ((i : Int) == (T : Int)) = false := by rw [beq_eq_false_iff_ne]; simp at hr; omega
              simp only [nxV] at N10
              have N1 := Lib.hid ((callsIn_wide (n := 8)).2 N10)
              clear N10 hw7
              gi_wp2_with (first | (refine ⟨trivial, ?_⟩; gi_at_call 12; (with_reducible refine (N1.out).mono ?_); rintro e w8 ⟨rfl, A9, c9, h9, hc9, hs9⟩; have L8 := hL.out.next1 hc9 h9 (fun k i hh => hb7 k i (hs9 k i hh)); have vx8 : w8.cell? ⟨w4.heap.size, 0, none⟩ = some (.pointer (some ⟨K2, 0, none⟩)) := L8.vx.cell 0; obtain ⟨A8, c8, hw8, hb8⟩ := L8.wv; have N20 := wnext_any hw8; simp only [nxV] at N20; have N2 := Lib.hid ((callsIn_wide (n := 8)).2 N20); have HL8 := Lib.hid L8; have HB8 := Lib.hid hb8; have HC9 := Lib.hid hc9; clear h9 hc9 hs9 L8 hw8 hb8 N20) | (refine ⟨trivial, ?_⟩; gi_at_call 12; (with_reducible refine (N2.out).mono ?_); rintro e w9 ⟨rfl, A10, c10, h10, hc10, hs10⟩; have HL9 := Lib.hid (HL8.out.next2 hc10 h10 (fun k i hh => HB8.out k i (hs10 k i hh))); have HC10 := Lib.hid hc10; clear h10 hc10 hs10) | (refine ⟨trivial, ?_⟩; gi_at_call 9; (with_reducible refine ((callsIn_wide (n := 8)).2 (num13_any _ _)).mono ?_); rintro e w' ⟨rfl, rfl⟩))
              go_roundw
              case rel => exact ⟨i + 1, _, by omega, by go_num, by simp at hr ⊢; omega, HL9, Lib.hid (HC10.out.heap_keep (fun _ e => by have := HL9.out.lt; have := HS8.out; omega) (HC9.out.heap_keep (fun _ e => by have := HL9.out.lt; have := HS8.out; omega) hD.out))⟩
              case measure => first | (simp [intOf]; done) | (simp [intOf]; omega)
          · have hgt : ¬ (i : Int) ≤ (T : Int) := by omega
            have rb0 := hL.out.rb.cell 0
            have rbf := hL.out.rb.frozen 0
            have FIN := Lib.hid hL.out.fin
            gi_wp2
            have hD3 := (Chg.setCell (fun k _ => k = w.heap.size + 1) wr (g := w.heap.size + 1) (i := 0) rfl (.bool true)).heap_keep (k := V8.heap.size) (fun _ e => by have := hL.out.lt; have := HS8.out; omega) hD.out
            have cD := Chg.putObj (fun k _ => k = V8.heap.size) (.deferred none) hD3 rfl rfl
            refine ⟨by simp, .inl ⟨_, _, rfl, run_takeDeferred hD3, ?_⟩⟩
            unfold LeavesInM LeavesIn
            exact ⟨_, results_cell1 rfl _ _ _ ⟨w.heap.size + 1, 0, none⟩ (.bool true) rfl (load_bool (cD.cell (fun e => by have := hL.out.lt; have := HS8.out; omega) FIN.out.1)), rfl, FIN.out.2.trans (cD.below (by have := hL.out.lt; simp; omega) fun k i hk e => by have := hL.out.lt; have := HS8.out; omega)⟩
    case stop =>
      rintro c0 W ⟨rfl, r0, hrl, hco0, hLL0⟩ hD
      have hco : ((T - r0.length : Nat) : Int) = k ∨ r0.length = 0 := .inl hco0
      clear hco0
      have h0 := (LLe.out _ _ _ _).1 hLL0
      obtain ⟨S0, hS0⟩ : ∃ S0, S0 = T - r0.length := ⟨_, rfl⟩
      rw [← hS0] at h0 hco
      have sx0 : W.cell? ⟨w6.heap.size, 0, none⟩ = some (.int .i64 (S0 : Int)) := h0.1.sx.cell 0
      have kb0 : W.cell? ⟨w.heap.size, 0, none⟩ = some (.int .i64 k) := h0.1.kb.cell 0
      have HS0 := Lib.hid (show r0.length = T - S0 ∧ S0 ≤ T from by omega)
      have HT8 := Lib.hid h0.1
      have HDD := Lib.hid hD
      have hco2 := Lib.hid hco
      have hS0e := Lib.hid hS0
      clear hLL0 h0 hD hS0 hrl hco
      by_cases hsk : (S0 : Int) = k
      · have e1 : ((S0 : Int) != k) = false := by simp [hsk]
        clear hsk
        gi_wp2
        gi_loopw [21] (fun t21 wr => ∃ (i : Nat) (rest : List Nat), i ≤ T + 1 ∧ t21 = .int .i64 (i : Int) ∧ rest.length = T - i ∧ Hid (LvP w w.heap.size (w.heap.size + 1) w4.heap.size w6.heap.size K K2 (w6.heap.size + 1) k S0 rest rest wr) ∧ Hid (wr.heap[V8.heap.size]? = some (.deferred (some [])))) (fun t21 _ => T + 2 - (intOf t21).toNat)
        case atStart => exact ⟨S0, r0, by have := HS0.out.2; omega, rfl, HS0.out.1, HT8, HDD⟩
        case round =>
          obtain ⟨i, rest, hi, rfl, hr, hL, hD⟩ := hrel
          by_cases hlt : i ≤ T
          · have hlt' : (i : Int) ≤ (T : Int) := by omega
            obtain ⟨A7, c7, hw7, hb7⟩ := hL.out.wk
            have N10 := wnext_any hw7
            cases rest with
            | nil =>
              obtain rfl : i = T := by simp at hr; omega
              simp only [nxV] at N10
              have N1 := Lib.hid ((callsIn_wide (n := 8)).2 N10)
              clear N10 hw7
              gi_wp2_with (first | (refine ⟨trivial, ?_⟩; gi_at_call 12; (with_reducible refine (N1.out).mono ?_); rintro e w8 ⟨rfl, A9, c9, h9, hc9, hs9⟩; have L8 := hL.out.next1 hc9 h9 (fun k i hh => hb7 k i (hs9 k i hh)); have vx8 : w8.cell? ⟨w4.heap.size, 0, none⟩ = some (.pointer (some ⟨K2, 0, none⟩)) := L8.vx.cell 0; obtain ⟨A8, c8, hw8, hb8⟩ := L8.wv; have N20 := wnext_any hw8; simp only [nxV] at N20; have N2 := Lib.hid ((callsIn_wide (n := 8)).2 N20); have HL8 := Lib.hid L8; have HB8 := Lib.hid hb8; have HC9 := Lib.hid hc9; clear h9 hc9 hs9 L8 hw8 hb8 N20) | (refine ⟨trivial, ?_⟩; gi_at_call 12; (with_reducible refine (N2.out).mono ?_); rintro e w9 ⟨rfl, A10, c10, h10, hc10, hs10⟩; have HL9 := Lib.hid (HL8.out.next2 hc10 h10 (fun k i hh => HB8.out k i (hs10 k i hh))); have HC10 := Lib.hid hc10; clear h10 hc10 hs10) | (refine ⟨trivial, ?_⟩; gi_at_call 9; (with_reducible refine ((callsIn_wide (n := 8)).2 (num13_any _ _)).mono ?_); rintro e w' ⟨rfl, rfl⟩))
              go_roundw
              case rel => exact ⟨i + 1, _, by omega, by go_num, by simp, HL9, Lib.hid (HC10.out.heap_keep (fun _ e => by have := HL9.out.lt; have := HS8.out; omega) (HC9.out.heap_keep (fun _ e => by have := HL9.out.lt; have := HS8.out; omega) hD.out))⟩
              case measure => first | (simp [intOf]; done) | (simp [intOf]; omega)
            | cons b rest =>
              have hne : ((i : Int) == (T : Int)) = false := by rw [beq_eq_false_iff_ne]; simp at hr; omega
              simp only [nxV] at N10
              have N1 := Lib.hid ((callsIn_wide (n := 8)).2 N10)
              clear N10 hw7
              gi_wp2_with (first | (refine ⟨trivial, ?_⟩; gi_at_call 12; (with_reducible refine (N1.out).mono ?_); rintro e w8 ⟨rfl, A9, c9, h9, hc9, hs9⟩; have L8 := hL.out.next1 hc9 h9 (fun k i hh => hb7 k i (hs9 k i hh)); have vx8 : w8.cell? ⟨w4.heap.size, 0, none⟩ = some (.pointer (some ⟨K2, 0, none⟩)) := L8.vx.cell 0; obtain ⟨A8, c8, hw8, hb8⟩ := L8.wv; have N20 := wnext_any hw8; simp only [nxV] at N20; have N2 := Lib.hid ((callsIn_wide (n := 8)).2 N20); have HL8 := Lib.hid L8; have HB8 := Lib.hid hb8; have HC9 := Lib.hid hc9; clear h9 hc9 hs9 L8 hw8 hb8 N20) | (refine ⟨trivial, ?_⟩; gi_at_call 12; (with_reducible refine (N2.out).mono ?_); rintro e w9 ⟨rfl, A10, c10, h10, hc10, hs10⟩; have HL9 := Lib.hid (HL8.out.next2 hc10 h10 (fun k i hh => HB8.out k i (hs10 k i hh))); have HC10 := Lib.hid hc10; clear h10 hc10 hs10) | (refine ⟨trivial, ?_⟩; gi_at_call 9; (with_reducible refine ((callsIn_wide (n := 8)).2 (num13_any _ _)).mono ?_); rintro e w' ⟨rfl, rfl⟩))
              go_roundw
              case rel => exact ⟨i + 1, _, by omega, by go_num, by simp at hr ⊢; omega, HL9, Lib.hid (HC10.out.heap_keep (fun _ e => by have := HL9.out.lt; have := HS8.out; omega) (HC9.out.heap_keep (fun _ e => by have := HL9.out.lt; have := HS8.out; omega) hD.out))⟩
              case measure => first | (simp [intOf]; done) | (simp [intOf]; omega)
          · have hgt : ¬ (i : Int) ≤ (T : Int) := by omega
            have rb0 := hL.out.rb.cell 0
            have rbf := hL.out.rb.frozen 0
            have FIN := Lib.hid hL.out.fin
            gi_wp2
            have hD3 := (Chg.setCell (fun k _ => k = w.heap.size + 1) wr (g := w.heap.size + 1) (i := 0) rfl (.bool true)).heap_keep (k := V8.heap.size) (fun _ e => by have := hL.out.lt; have := HS8.out; omega) hD.out
            have cD := Chg.putObj (fun k _ => k = V8.heap.size) (.deferred none) hD3 rfl rfl
            refine ⟨by simp, .inl ⟨_, _, rfl, run_takeDeferred hD3, ?_⟩⟩
            unfold LeavesInM LeavesIn
            exact ⟨_, results_cell1 rfl _ _ _ ⟨w.heap.size + 1, 0, none⟩ (.bool true) rfl (load_bool (cD.cell (fun e => by have := hL.out.lt; have := HS8.out; omega) FIN.out.1)), rfl, FIN.out.2.trans (cD.below (by have := hL.out.lt; simp; omega) fun k i hk e => by have := hL.out.lt; have := HS8.out; omega)⟩
      · have e1 : ((S0 : Int) != k) = true := by rw [bne_iff_ne]; exact hsk
        have e2 : ((S0 : Int) != (T : Int)) = false := by
          rcases hco2.out with h | h
          · exact absurd h hsk
          · rw [hS0e.out, h]; simp
        clear hsk
        gi_wp2
        gi_loopw [21] (fun t21 wr => ∃ (i : Nat) (rest : List Nat), i ≤ T + 1 ∧ t21 = .int .i64 (i : Int) ∧ rest.length = T - i ∧ Hid (LvP w w.heap.size (w.heap.size + 1) w4.heap.size w6.heap.size K K2 (w6.heap.size + 1) k S0 rest rest wr) ∧ Hid (wr.heap[V8.heap.size]? = some (.deferred (some [])))) (fun t21 _ => T + 2 - (intOf t21).toNat)
        case atStart => exact ⟨S0, r0, by have := HS0.out.2; omega, rfl, HS0.out.1, HT8, HDD⟩
        case round =>
          obtain ⟨i, rest, hi, rfl, hr, hL, hD⟩ := hrel
          by_cases hlt : i ≤ T
          · have hlt' : (i : Int) ≤ (T : Int) := by omega
            obtain ⟨A7, c7, hw7, hb7⟩ := hL.out.wk
            have N10 := wnext_any hw7
            cases rest with
            | nil =>
              obtain rfl : i = T := by simp at hr; omega
              simp only [nxV] at N10
              have N1 := Lib.hid ((callsIn_wide (n := 8)).2 N10)
              clear N10 hw7
              gi_wp2_with (first | (refine ⟨trivial, ?_⟩; gi_at_call 12; (with_reducible refine (N1.out).mono ?_); rintro e w8 ⟨rfl, A9, c9, h9, hc9, hs9⟩; have L8 := hL.out.next1 hc9 h9 (fun k i hh => hb7 k i (hs9 k i hh)); have vx8 : w8.cell? ⟨w4.heap.size, 0, none⟩ = some (.pointer (some ⟨K2, 0, none⟩)) := L8.vx.cell 0; obtain ⟨A8, c8, hw8, hb8⟩ := L8.wv; have N20 := wnext_any hw8; simp only [nxV] at N20; have N2 := Lib.hid ((callsIn_wide (n := 8)).2 N20); have HL8 := Lib.hid L8; have HB8 := Lib.hid hb8; have HC9 := Lib.hid hc9; clear h9 hc9 hs9 L8 hw8 hb8 N20) | (refine ⟨trivial, ?_⟩; gi_at_call 12; (with_reducible refine (N2.out).mono ?_); rintro e w9 ⟨rfl, A10, c10, h10, hc10, hs10⟩; have HL9 := Lib.hid (HL8.out.next2 hc10 h10 (fun k i hh => HB8.out k i (hs10 k i hh))); have HC10 := Lib.hid hc10; clear h10 hc10 hs10) | (refine ⟨trivial, ?_⟩; gi_at_call 9; (with_reducible refine ((callsIn_wide (n := 8)).2 (num13_any _ _)).mono ?_); rintro e w' ⟨rfl, rfl⟩))
              go_roundw
              case rel => exact ⟨i + 1, _, by omega, by go_num, by simp, HL9, Lib.hid (HC10.out.heap_keep (fun _ e => by have := HL9.out.lt; have := HS8.out; omega) (HC9.out.heap_keep (fun _ e => by have := HL9.out.lt; have := HS8.out; omega) hD.out))⟩
              case measure => first | (simp [intOf]; done) | (simp [intOf]; omega)
            | cons b rest =>
              have hne : ((i : Int) == (T : Int)) = false := by rw [beq_eq_false_iff_ne]; simp at hr; omega
              simp only [nxV] at N10
              have N1 := Lib.hid ((callsIn_wide (n := 8)).2 N10)
              clear N10 hw7
              gi_wp2_with (first | (refine ⟨trivial, ?_⟩; gi_at_call 12; (with_reducible refine (N1.out).mono ?_); rintro e w8 ⟨rfl, A9, c9, h9, hc9, hs9⟩; have L8 := hL.out.next1 hc9 h9 (fun k i hh => hb7 k i (hs9 k i hh)); have vx8 : w8.cell? ⟨w4.heap.size, 0, none⟩ = some (.pointer (some ⟨K2, 0, none⟩)) := L8.vx.cell 0; obtain ⟨A8, c8, hw8, hb8⟩ := L8.wv; have N20 := wnext_any hw8; simp only [nxV] at N20; have N2 := Lib.hid ((callsIn_wide (n := 8)).2 N20); have HL8 := Lib.hid L8; have HB8 := Lib.hid hb8; have HC9 := Lib.hid hc9; clear h9 hc9 hs9 L8 hw8 hb8 N20) | (refine ⟨trivial, ?_⟩; gi_at_call 12; (with_reducible refine (N2.out).mono ?_); rintro e w9 ⟨rfl, A10, c10, h10, hc10, hs10⟩; have HL9 := Lib.hid (HL8.out.next2 hc10 h10 (fun k i hh => HB8.out k i (hs10 k i hh))); have HC10 := Lib.hid hc10; clear h10 hc10 hs10) | (refine ⟨trivial, ?_⟩; gi_at_call 9; (with_reducible refine ((callsIn_wide (n := 8)).2 (num13_any _ _)).mono ?_); rintro e w' ⟨rfl, rfl⟩))
              go_roundw
              case rel => exact ⟨i + 1, _, by omega, by go_num, by simp at hr ⊢; omega, HL9, Lib.hid (HC10.out.heap_keep (fun _ e => by have := HL9.out.lt; have := HS8.out; omega) (HC9.out.heap_keep (fun _ e => by have := HL9.out.lt; have := HS8.out; omega) hD.out))⟩
              case measure => first | (simp [intOf]; done) | (simp [intOf]; omega)
          · have hgt : ¬ (i : Int) ≤ (T : Int) := by omega
            have rb0 := hL.out.rb.cell 0
            have rbf := hL.out.rb.frozen 0
            have FIN := Lib.hid hL.out.fin
            gi_wp2
            have hD3 := (Chg.setCell (fun k _ => k = w.heap.size + 1) wr (g := w.heap.size + 1) (i := 0) rfl (.bool true)).heap_keep (k := V8.heap.size) (fun _ e => by have := hL.out.lt; have := HS8.out; omega) hD.out
            have cD := Chg.putObj (fun k _ => k = V8.heap.size) (.deferred none) hD3 rfl rfl
            refine ⟨by simp, .inl ⟨_, _, rfl, run_takeDeferred hD3, ?_⟩⟩
            unfold LeavesInM LeavesIn
            exact ⟨_, results_cell1 rfl _ _ _ ⟨w.heap.size + 1, 0, none⟩ (.bool true) rfl (load_bool (cD.cell (fun e => by have := hL.out.lt; have := HS8.out; omega) FIN.out.1)), rfl, FIN.out.2.trans (cD.below (by have := hL.out.lt; simp; omega) fun k i hk e => by have := hL.out.lt; have := HS8.out; omega)⟩
  · skip
    gi_wp2_with (first | (refine ⟨trivial, ?_⟩; gi_at_call 8; (with_reducible refine (OW.out _ RD0).mono ?_); rintro e w1 ⟨A1, c1, rfl, hown, B1⟩; have RDo1 := own13_rd (A := A1) (c := c1) (by rw [← HL.out]; exact hown); have TB1 := TB0.below B1 Ht0; have HB1 := Lib.hid B1; clear hown B1) | (refine ⟨trivial, ?_⟩; gi_at_call 7; (with_reducible refine (NWg.out _ A1 c1 RDo1 TB1).mono ?_); rintro e w2 hnew; obtain ⟨h0, _⟩ | ⟨_, _, K, A2, c2, rfl, hK, B2, hKl, hfr⟩ := hnew; exact absurd HN.out h0; have hs1 := HB1.out.size; have Bw2 := HB1.out.trans (B2.mono hs1); have RD2 := RD0.below Bw2; have TB2 := TB0.below Bw2 Ht0; have Ht2 := Nat.lt_of_lt_of_le Ht0 Bw2.size; have HB2 := Lib.hid Bw2; have HK := Lib.hid hK; have HKl := Lib.hid (Nat.le_trans hs1 hKl); clear hs1 Bw2 B2 hK hKl hfr) | (refine ⟨trivial, ?_⟩; gi_at_call 8; (with_reducible refine (OW.out _ RD2).mono ?_); rintro e w3 ⟨A3, c3, rfl, hown, B3⟩; have RDo3 := own13_rd (A := A3) (c := c3) (by rw [← HL.out]; exact hown); have TB3 := TB2.below B3 Ht2; have HB3 := Lib.hid B3; clear hown B3) | (refine ⟨trivial, ?_⟩; gi_at_call 7; (with_reducible refine (NWg.out _ A3 c3 RDo3 TB3).mono ?_); rintro e w4 hnew; obtain ⟨h0, _⟩ | ⟨_, _, K2, A4, c4, rfl, hK2, B4, hKl2, hfr2⟩ := hnew; exact absurd HN.out h0; have hs3 := HB3.out.size; have Bw4 := HB3.out.trans (B4.mono hs3); have TB4 := TB2.below Bw4 Ht2; have Ht4 := Nat.lt_of_lt_of_le Ht2 Bw4.size; have HB4 := Lib.hid Bw4; have HK2 := Lib.hid hK2; have HKl2 := Lib.hid (Nat.le_trans hs3 hKl2); clear hs3 Bw4 B4 hK2 hKl2 hfr2) | (refine ⟨trivial, ?_⟩; gi_at_call 7; (with_reducible refine (X3.out (w4.alloc (.cells #[.pointer (some ⟨K2, 0, none⟩)] 23)) (w4.heap.size + 1) (by simp) (TB4.below (((Below.refl w4.heap.size w4).alloc (Nat.le_refl _) (.cells #[.pointer (some ⟨K2, 0, none⟩)] 23)).alloc (by simp) (.cells #[.int .u64 1] 28)) Ht4)).mono ?_); rintro e w6 ⟨K3, rfl, hL3, B6⟩; have L7 := leave_start k HK.out HK2.out HB2.out HB4.out B6 HKl.out HKl2.out; have vx6 : w6.cell? ⟨w4.heap.size, 0, none⟩ = some (.pointer (some ⟨K2, 0, none⟩)) := (((Blk.new w4 23 #[.pointer (some ⟨K2, 0, none⟩)]).alloc (.cells #[.int .u64 1] 28)).below B6 (by simp; omega)).cell 0; have HX3 := Lib.hid hL3; have LE8 := Lib.hid ((callsIn_wide (n := 8)).2 (wleft_any (HK2.out.below ((((Below.refl w4.heap.size w4).alloc (Nat.le_refl _) (.cells #[.pointer (some ⟨K2, 0, none⟩)] 23)).alloc (by simp) (.cells #[.int .u64 1] 28)).trans (B6.mono (by simp; omega)))))); rw [← HTb.out] at LE8; have kb7 : (w6.alloc (.cells #[.int .i64 0] 3)).cell? ⟨w.heap.size, 0, none⟩ = some (.int .i64 k) := L7.kb.cell 0; have sx7 : (w6.alloc (.cells #[.int .i64 0] 3)).cell? ⟨w6.heap.size, 0, none⟩ = some (.int .i64 0) := L7.sx.cell 0; have HL7 := Lib.hid L7; clear L7 hL3 B6) | (refine ⟨trivial, ?_⟩; gi_at_call 9; (with_reducible refine ((callsIn_wide (n := 8)).2 (num13_any _ _)).mono ?_); rintro e w' ⟨rfl, rfl⟩) | (refine ⟨trivial, ?_⟩; gi_at_call 11; (with_reducible refine (HX3.out).mono ?_); rintro e w' ⟨rfl, rfl⟩) | (refine ⟨trivial, ?_⟩; gi_at_call 11; (with_reducible refine (LE8.out).mono ?_); rintro e w' ⟨rfl, rfl⟩) | (refine ⟨trivial, ?_⟩; gi_at_call 15; (with_reducible refine ((callsIn_wide (n := 8)).2 (wrest_any _)).mono ?_); rintro e w8 ⟨rfl, rfl⟩))
    gi_loopw [21] (fun t21 wr => ∃ (i : Nat) (rest : List Nat), i ≤ T + 1 ∧ t21 = .int .i64 (i : Int) ∧ rest.length = T - i ∧ Hid (LvP w w.heap.size (w.heap.size + 1) w4.heap.size w6.heap.size K K2 (w6.heap.size + 1) k 0 rest rest wr)) (fun t21 _ => T + 2 - (intOf t21).toNat)
    case atStart => exact ⟨0, bits, by omega, rfl, by rw [HTb.out]; simp, HL7⟩
    case round =>
      obtain ⟨i, rest, hi, rfl, hr, hL⟩ := hrel
      by_cases hlt : i ≤ T
      · have hlt' : (i : Int) ≤ (T : Int) := by omega
        obtain ⟨A7, c7, hw7, hb7⟩ := hL.out.wk
        have N10 := wnext_any hw7
        cases rest with
        | nil =>
          obtain rfl : i = T := by simp at hr; omega
          simp only [nxV] at N10
          have N1 := Lib.hid ((callsIn_wide (n := 8)).2 N10)
          clear N10 hw7
          gi_wp2_with (first | (refine ⟨trivial, ?_⟩; gi_at_call 12; (with_reducible refine (N1.out).mono ?_); rintro e w8 ⟨rfl, A9, c9, h9, hc9, hs9⟩; have L8 := hL.out.next1 hc9 h9 (fun k i hh => hb7 k i (hs9 k i hh)); have vx8 : w8.cell? ⟨w4.heap.size, 0, none⟩ = some (.pointer (some ⟨K2, 0, none⟩)) := L8.vx.cell 0; obtain ⟨A8, c8, hw8, hb8⟩ := L8.wv; have N20 := wnext_any hw8; simp only [nxV] at N20; have N2 := Lib.hid ((callsIn_wide (n := 8)).2 N20); have HL8 := Lib.hid L8; have HB8 := Lib.hid hb8; have HC9 := Lib.hid hc9; clear h9 hc9 hs9 L8 hw8 hb8 N20) | (refine ⟨trivial, ?_⟩; gi_at_call 12; (with_reducible refine (N2.out).mono ?_); rintro e w9 ⟨rfl, A10, c10, h10, hc10, hs10⟩; have HL9 := Lib.hid (HL8.out.next2 hc10 h10 (fun k i hh => HB8.out k i (hs10 k i hh))); have HC10 := Lib.hid hc10; clear h10 hc10 hs10) | (refine ⟨trivial, ?_⟩; gi_at_call 9; (with_reducible refine ((callsIn_wide (n := 8)).2 (num13_any _ _)).mono ?_); rintro e w' ⟨rfl, rfl⟩))
          go_roundw
          case rel => exact ⟨i + 1, _, by omega, by go_num, by simp, HL9⟩
          case measure => first | (simp [intOf]; done) | (simp [intOf]; omega)
        | cons b rest =>
          have hne : ((i : Int) == (T : Int)) = false := by rw [beq_eq_false_iff_ne]; simp at hr; omega
          simp only [nxV] at N10
          have N1 := Lib.hid ((callsIn_wide (n := 8)).2 N10)
          clear N10 hw7
          gi_wp2_with (first | (refine ⟨trivial, ?_⟩; gi_at_call 12; (with_reducible refine (N1.out).mono ?_); rintro e w8 ⟨rfl, A9, c9, h9, hc9, hs9⟩; have L8 := hL.out.next1 hc9 h9 (fun k i hh => hb7 k i (hs9 k i hh)); have vx8 : w8.cell? ⟨w4.heap.size, 0, none⟩ = some (.pointer (some ⟨K2, 0, none⟩)) := L8.vx.cell 0; obtain ⟨A8, c8, hw8, hb8⟩ := L8.wv; have N20 := wnext_any hw8; simp only [nxV] at N20; have N2 := Lib.hid ((callsIn_wide (n := 8)).2 N20); have HL8 := Lib.hid L8; have HB8 := Lib.hid hb8; have HC9 := Lib.hid hc9; clear h9 hc9 hs9 L8 hw8 hb8 N20) | (refine ⟨trivial, ?_⟩; gi_at_call 12; (with_reducible refine (N2.out).mono ?_); rintro e w9 ⟨rfl, A10, c10, h10, hc10, hs10⟩; have HL9 := Lib.hid (HL8.out.next2 hc10 h10 (fun k i hh => HB8.out k i (hs10 k i hh))); have HC10 := Lib.hid hc10; clear h10 hc10 hs10) | (refine ⟨trivial, ?_⟩; gi_at_call 9; (with_reducible refine ((callsIn_wide (n := 8)).2 (num13_any _ _)).mono ?_); rintro e w' ⟨rfl, rfl⟩))
          go_roundw
          case rel => exact ⟨i + 1, _, by omega, by go_num, by simp at hr ⊢; omega, HL9⟩
          case measure => first | (simp [intOf]; done) | (simp [intOf]; omega)
      · have hgt : ¬ (i : Int) ≤ (T : Int) := by omega
        have rb0 := hL.out.rb.cell 0
        have rbf := hL.out.rb.frozen 0
        have FIN := Lib.hid hL.out.fin
        gi_wp2
        unfold bodyPostM LeavesInM LeavesIn
        exact ⟨_, results_cell1 rfl _ _ _ ⟨w.heap.size + 1, 0, none⟩ (.bool true) rfl (load_bool FIN.out.1), rfl, FIN.out.2⟩
end
end Go.Proofs.YtdhccjmokmdboaaDoor
