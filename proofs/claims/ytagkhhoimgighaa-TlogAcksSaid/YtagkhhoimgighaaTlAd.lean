/- TlogAcks: the walk. -/
import Derived.Test.YtagkhhoimgighaaTlAk
import Derived.Test.YtagkhhoimgighaaTlUc
import Derived.Deep.DeepCutAuto
import Derived.Deep.CutBlock
namespace Go.Proofs.Ytagkhhoimgighaa
open Go.RowKit
set_option linter.unusedVariables false
set_option linter.unusedSimpArgs false
theorem good_yes (limit width : Int) (w : World) (h : goodB limit width) : Calls Try.prog 10 #[.int .i64 limit, .int .i64 width] w fun e w' => e = .returned (.bool true) ∧ w = w' :=
  (good_any limit width w).mono fun _ _ ⟨he, hw⟩ => ⟨he.elim (fun h2 => h2.2) (fun h2 => absurd h h2.1), hw⟩
theorem good_no (limit width : Int) (w : World) (h : ¬ goodB limit width) : Calls Try.prog 10 #[.int .i64 limit, .int .i64 width] w fun e w' => e = .returned (.bool false) ∧ w = w' :=
  (good_any limit width w).mono fun _ _ ⟨he, hw⟩ => ⟨he.elim (fun h2 => absurd h2.1 h) (fun h2 => h2.2), hw⟩
theorem beqd (a b : Int) : (a == b) = decide (a = b) := by rw [Bool.eq_iff_iff, decide_eq_true_iff, beq_iff_eq]
/-- Add, by cases of its answer -/
theorem add_no' {w : World} {G : Nat} {s : LogS} {F : Nat → Nat → Prop} {id blk r : Int} (h : LogAt w G s F) (hw : (Lit.int .i64 id).wf = true) (hr : addR s id blk = r) (h0 : r ≠ 0) :
    Calls Try.prog 12 #[.pointer (some ⟨G, 0, none⟩), .int .i64 id, .int .i64 blk] w fun e w' => e = .returned (.tuple #[.int .i64 0, .bool false, .int .i64 r]) ∧ ∃ n, w' = w.drewN n := by
  subst hr
  exact add_no id blk h hw h0
theorem add_yes' {w : World} {G : Nat} {limit width opn filled : Int} {turn : Nat} {ws : List Wr} {F : Nat → Nat → Prop} {id blk : Int} (h : LogAt w G ⟨limit, width, opn, filled, turn, ws⟩ F) (hw : (Lit.int .i64 id).wf = true) (hr : addR ⟨limit, width, opn, filled, turn, ws⟩ id blk = 0) (ht : turn < 9223372036854775807) (hl : limit ≤ 1024) (hwd : width ≤ 64) (hfl : 0 ≤ filled) :
    Calls Try.prog 12 #[.pointer (some ⟨G, 0, none⟩), .int .i64 id, .int .i64 blk] w fun e w' => e = .returned (.tuple #[.int .i64 opn, .bool (filled + 1 == width), .int .i64 0]) ∧ ∃ g F', LogAt w' G (addS ⟨limit, width, opn, filled, turn, ws⟩ id blk g) F' ∧ Chg F w w' ∧ ∀ k i, F' k i → F k i ∨ w.heap.size ≤ k :=
  (add_yes id blk h hw hr ht hl hwd hfl).mono fun _ _ ⟨he, h2⟩ => ⟨by rw [he, beqd], h2⟩
theorem barrier_no' {w : World} {G : Nat} {s : LogS} {F : Nat → Nat → Prop} (ep cnt : Int) (h : LogAt w G s F) (hb : ¬ barOk s ep cnt) :
    Calls Try.prog 18 #[.pointer (some ⟨G, 0, none⟩), .int .i64 ep, .int .i64 cnt] w fun e w' => e = .returned (.tuple #[.slice none 0 0, .int .i64 101]) ∧ ∃ m, w' = w.drewN m := by
  obtain ⟨A, c, b, n, h, _⟩ := h
  exact barrier_no ep cnt h hb
theorem barrier_yes' {w : World} {G : Nat} {s : LogS} {F : Nat → Nat → Prop} (ep : Int) (m : Nat) (h : LogAt w G s F) (hb : barOk s ep m) :
    Calls Try.prog 18 #[.pointer (some ⟨G, 0, none⟩), .int .i64 ep, .int .i64 m] w fun e w' => ∃ A F', e = .returned (.tuple #[.slice A m m, .int .i64 0]) ∧
      LogAt w' G { s with ws := s.ws.drop m } F' ∧ Chg F w w' ∧ (∀ k i, F' k i → F k i) ∧ Handed w' F F' A m (s.ws.take m) := by
  have hm : lead s.ws ep = m := by obtain ⟨_, _, _, _, _, e⟩ := hb; omega
  rw [← hm] at hb ⊢
  exact barrier_any ep _ h hb
theorem same_yes {A B : Option Addr} {cA cB n m : Nat} {l : List Ent3} {w : World} (hr : RdS encE 3 w A l) (hm : RdS encE 3 w B l) (hn : l.length = n) (hn2 : l.length = m) (hl : n ≤ 9223372036854775807) :
    Calls Try.prog 25 #[.slice A n cA, .slice B m cB] w fun e w' => e = .returned (.bool true) ∧ Below w.heap.size w w' := by
  subst hn
  subst hn2
  have := sameEntries_any (cA := cA) (cB := cB) hr hm hl hl
  rwa [decide_eq_true rfl] at this
section
variable {base G : Nat} {w0 wr w' : World} {k : Nat} {s : LogS} {r : RefT} {F : Nat → Nat → Prop} {A B : Option Addr} {c cB : Nat}
theorem ABk.unacked (h : ABk base G w0 wr k s r F A c B cB) : Calls Try.prog 28 #[.pointer (some ⟨G, 0, none⟩)] wr fun e w' => ∃ A1 c1, e = .returned (.slice A1 (unA s.ws).length c1) ∧ RdS encE 3 w' A1 ((unA s.ws).map entW) ∧ RdS encE 3 w' B ((unA s.ws).map entW) ∧ ABk base G w0 w' k s r F A c B cB := by
  refine (unacked_any h.log h.sim.tord (by have := h.len; have := h.lim.2.1; omega)).mono ?_
  rintro e w' ⟨A1, c1, rfl, g, hB, _⟩
  have h' := h.move (Chg.of_below _ hB)
  exact ⟨A1, c1, rfl, g.rds, h'.wai.rds, h'⟩
end
section
variable {limit width : Int} {A0 : Option Addr} {c0 : Nat} {l : List (Int × Int × Int × Int)} {w : World}
set_option maxRecDepth 20000 in
theorem acks_no (h : ¬ goodB limit width) : Calls Try.prog 7 #[.int .i64 limit, .int .i64 width, .slice A0 l.length c0] w fun e w' => e = .returned (.bool true) ∧ Below w.heap.size w w' := by
  have H := Lib.hid (good_no limit width w h)
  clear h
  go_enter Try.func7, Try.ntmps7
  go_wp2_with (go_at_call 10; refine H.out.mono ?_; rintro e w' ⟨rfl, rfl⟩)
  go_ret
  exact ⟨rfl, Below.refl _ _⟩
set_option maxRecDepth 20000 in
set_option maxHeartbeats 8000000 in
theorem acks_yes (hg : goodB limit width) (hl : l.length ≤ 140737488351232) (hs : RdS encO4 4 w A0 l) (hwf : ∀ x ∈ l, (Lit.int .i64 x.2.2.1).wf = true) :
    Calls Try.prog 7 #[.int .i64 limit, .int .i64 width, .slice A0 l.length c0] w fun e w' => e = .returned (.bool true) ∧ Below w.heap.size w w' := by
  have Hg := Lib.hid hg
  have H1 := Lib.hid (good_yes limit width w hg)
  have H2 := Lib.hid (made_any limit width w hg)
  have Hwf := Lib.hid hwf
  obtain ⟨g1, g2, g3, g4⟩ := hg
  clear hwf
  go_enter Try.func7, Try.ntmps7
  go_wp2_with (first
    | (go_at_call 10; refine H1.out.mono ?_; rintro e w' ⟨rfl, rfl⟩)
    | (go_at_call 11; refine H2.out.mono ?_; rintro e1 w1 ⟨G, F0, rfl, L0, b0, f0⟩))
  have B0 : ABk w.heap.size G w w1 0 (newS limit width) ⟨[], 1, limit, width⟩ F0 none 0 none 0 := ⟨b0, b0.size, L0, Sim.made limit width, GSl.nil_, GSl.nil_, f0, (fun j i ⟨o, ho, _⟩ => by cases ho), (fun j i ⟨o, ho, _⟩ => by cases ho), Hg.out, by show (0 : Int) ≤ limit; omega, Nat.le_refl _, by show (1 : Int) ≤ _; omega, by show (0 : Int) ≤ width; omega⟩
  have HB0 := Lib.hid B0
  clear L0 b0 f0 B0 H1 H2
  go_loopw [9, 10, 11] (fun t9 t10 t11 wr => ∃ (k : Nat) (s : LogS) (r : RefT) (F : Nat → Nat → Prop) (A : Option Addr) (c : Nat) (B : Option Addr) (cB : Nat), k ≤ l.length ∧ t11 = .int .i64 k ∧ t9 = .slice A s.ws.length c ∧ t10 = .slice B (unA s.ws).length cB ∧ Hid (ABk w.heap.size G w wr k s r F A c B cB)) (fun _ _ t11 _ => l.length - (intOf t11).toNat)
  case atStart => exact ⟨0, newS limit width, _, F0, none, 0, none, 0, by omega, rfl, rfl, rfl, HB0⟩
  case round =>
    obtain ⟨k, s, r, F, A, c, B, cB, hk, rfl, rfl, rfl, HB⟩ := hrel
    clear HB0
    by_cases hkl : k < l.length
    case neg =>
      obtain rfl : k = l.length := by omega
      go_wp2_with fail
      go_ret
      exact ⟨rfl, HB.out.bel⟩
    obtain ⟨sb, so, ⟨kd, of_, a, b⟩, rfl, hsb, hx, hc⟩ := hs.at_ hkl
    have c0 : wr.cell? ⟨sb, so + k * 4, none⟩ = some (.int .i64 kd) := (HB.out.bel.cell (p := ⟨sb, so + k * 4, none⟩) hsb).trans (hc 0 _ rfl)
    have c1 : wr.cell? ⟨sb, so + k * 4 + 1, none⟩ = some (.int .i64 of_) := (HB.out.bel.cell (p := ⟨sb, so + k * 4 + 1, none⟩) hsb).trans (hc 1 _ rfl)
    have c2 : wr.cell? ⟨sb, so + k * 4 + 2, none⟩ = some (.int .i64 a) := (HB.out.bel.cell (p := ⟨sb, so + k * 4 + 2, none⟩) hsb).trans (hc 2 _ rfl)
    have c3 : wr.cell? ⟨sb, so + k * 4 + 3, none⟩ = some (.int .i64 b) := (HB.out.bel.cell (p := ⟨sb, so + k * 4 + 3, none⟩) hsb).trans (hc 3 _ rfl)
    have ha : (Lit.int .i64 a).wf = true := Hwf.out _ (List.mem_of_getElem? hx)
    have Ha := Lib.hid ha
    have he : Blk (wr.alloc (.cells #[.int .i64 0, .int .i64 0, .int .i64 0, .int .i64 0] 29)) wr.heap.size 29 #[.int .i64 0, .int .i64 0, .int .i64 0, .int .i64 0] := Blk.new wr _ _
    clear hx hc ha
    obtain ⟨n, hn⟩ : ∃ n, n = s.ws.length := ⟨_, rfl⟩
    obtain ⟨m, hm⟩ : ∃ m, m = (unA s.ws).length := ⟨_, rfl⟩
    rw [← hn, ← hm]
    have HN := Lib.hid hn
    have HM := Lib.hid hm
    clear hn hm
    go_upto_block 2 with (first
          | ((with_reducible refine wpList_store_blk rfl 29 (.tmp 12) (.tmp 48) rfl wr.heap.size 29 #[.int .i64 0, .int .i64 0, .int .i64 0, .int .i64 0] #[.int .i64 kd, .int .i64 of_, .int .i64 a, .int .i64 b] ?hb rfl rfl (opSz _ _ _ _) (size4 _ _ _ _ _ _ _ _) (one4 rfl rfl rfl rfl) ?_); (case hb => exact he); intro w2 hb2 hg2 hs2; have q0 := hb2.cell 0; have q2 := hb2.cell 2; have q3 := hb2.cell 3; have HB2 := Lib.hid (HB.out.move ((Chg.alloc (fun k _ => wr.heap.size ≤ k) wr _).trans (Chg.of_row (F := fun k _ => wr.heap.size ≤ k) hg2 he hb2 rfl fun _ => Nat.le_refl _) fun _ _ _ h => h)); clear c0 c1 c2 c3 he))
    go_cut [9, 10] (fun t9 t10 wx => ∃ (s' : LogS) (r' : RefT) (F' : Nat → Nat → Prop) (A' : Option Addr) (c' : Nat) (B' : Option Addr) (cB' : Nat), t9 = .slice A' s'.ws.length c' ∧ t10 = .slice B' (unA s'.ws).length cB' ∧ Hid (ABk w.heap.size G w wx (k + 1) s' r' F' A' c' B' cB'))
    case first =>
      have hf1 := HB2.out.fil
      have hl1 := HB2.out.len
      have ht1 := HB2.out.turn
      have hs1 := HB2.out.opn
      have hn1 := HB2.out.sim.one
      have hff : 0 ≤ s.filled := by rw [HB2.out.sim.fil]; omega
      have hlim := HB2.out.lim
      have hn2 : n ≤ 1024 := by have := HN.out; have := hlim.2.1; omega
      have hm2 : m ≤ n := by have := HN.out; have := HM.out; have := (unA_sub s.ws).length_le; omega
      go_wp2_with fail
      · -- Add
        by_cases hR : addR s a b = 0
        case neg =>
          obtain ⟨q, hq⟩ : ∃ q, addR s a b = q := ⟨_, rfl⟩
          rw [hq] at hR
          have hC := Lib.hid (add_no' HB2.out.log Ha.out hq hR)
          have hr0 : (q == 0) = false := by rw [beq_eq_false_iff_ne]; exact hR
          clear hq hR
          refine hC.out.mono ?_
          rintro e w3 ⟨rfl, m3, rfl⟩
          clear hC
          go_wp2_with (first
            | (go_at_call 14; (with_reducible refine (num_any _ _).mono ?_); rintro e w' ⟨rfl, rfl⟩))
          go_meet
          exact ⟨s, r, F, A, c, B, cB, by rw [HN.out], by rw [HM.out], Lib.hid (HB2.out.drewN m3).next⟩
        have hC := Lib.hid (add_yes a b HB2.out.log Ha.out hR (by omega) hlim.2.1 hlim.2.2.2 hff)
        obtain ⟨EP, hEP⟩ : ∃ EP : Int, EP = s.opn := ⟨_, rfl⟩
        rw [← hEP] at hC
        have HEP := Lib.hid hEP
        have HRz := Lib.hid hR
        clear hR hEP
        refine hC.out.mono ?_
        rintro e w3 ⟨rfl, g, F', L3, k3, f3⟩
        obtain ⟨us, hus⟩ : ∃ us, us = (unA s.ws).map entW := ⟨_, rfl⟩
        obtain ⟨es, hes⟩ : ∃ es, es = s.ws.map entW := ⟨_, rfl⟩
        have HUS := Lib.hid hus
        have HES := Lib.hid hes
        have hlu : us.length = m := by rw [hus, List.length_map, HM.out]
        have hle : es.length = n := by rw [hes, List.length_map, HN.out]
        have HLU := Lib.hid hlu
        have HLE := Lib.hid hle
        have gin : GSl encE 3 36 (w3.alloc (.cells #[.int .i64 a, .int .i64 b, .int .i64 EP] 36)) A c es := by
          have h3 := (HB2.out.turned k3).2.2.1
          rw [← hes] at h3
          exact h3.chg (Chg.alloc (fun k _ => w3.heap.size ≤ k) w3 _) encE_len fun j i hj hle => by have := slFp_lt h3 (slFp_len h3 hj); omega
        have gnew : RdS encE 3 (w3.alloc (.cells #[.int .i64 a, .int .i64 b, .int .i64 EP] 36)) (some ⟨w3.heap.size, 0, none⟩) [(a, b, EP)] := RdS.new1 encE 3 w3 36 (a, b, EP)
        have p2 : w3.cell? ⟨wr.heap.size, 2, none⟩ = some (.int .i64 a) := k3.cell (fun hF => by have := HB.out.log.fp_lt hF; omega) q2
        have p3 : w3.cell? ⟨wr.heap.size, 3, none⟩ = some (.int .i64 b) := k3.cell (fun hF => by have := HB.out.log.fp_lt hF; omega) q3
        have HL3 := Lib.hid L3
        have HK3 := Lib.hid k3
        have HF3 := Lib.hid f3
        have hw23 := k3.size
        have hwr2 : wr.heap.size < w2.heap.size := hb2.lt
        have HW2 := Lib.hid hwr2
        have HW23 := Lib.hid hw23
        clear L3 q0 q2 q3 hC hus hes hlu hle k3 f3 hw23 hwr2
        go_upto_region 17 with (first
            | (go_at_call 14; (with_reducible refine (num_any _ _).mono ?_); rintro e w' ⟨rfl, rfl⟩)
            | (at_builtin; refine wpList_appendG entTy (by decide) encE_len encE_one rfl (.tmp 66) (.tmp 73) rfl A c es (by rw [HLE.out]; rfl) gin (some ⟨w3.heap.size, 0, none⟩) 1 [(a, b, EP)] rfl gnew (by rw [HLE.out]; simp only [maxLen, List.length_singleton]; omega) (by rw [HLE.out]; simp only [List.length_singleton]; omega) ?_; intro A' c' w4 h4 k4 q4))
        have hA4 := k4
        rw [HLE.out] at hA4
        have p4 : w4.cell? ⟨wr.heap.size, 2, none⟩ = some (.int .i64 a) ∧ w4.cell? ⟨wr.heap.size, 3, none⟩ = some (.int .i64 b) := by
          have hnA : ∀ i, ¬ slFp 3 A 0 c wr.heap.size i := fun i hs => by have := slFp_lt HB.out.inn hs; omega
          have hal : ∀ i v, w3.cell? ⟨wr.heap.size, i, none⟩ = some v → w4.cell? ⟨wr.heap.size, i, none⟩ = some v := fun i v hv => k4.cell (fun hs => hnA i (slFp_zero hs)) ((Chg.alloc (fun k _ => w3.heap.size ≤ k) w3 _).cell (by have := HW2.out; have := HW23.out; omega) hv)
          exact ⟨hal 2 _ p2, hal 3 _ p3⟩
        obtain ⟨p42, p43⟩ := p4
        have hbin : GSl encE 3 36 (w4.alloc (.cells #[.int .i64 a, .int .i64 b, .int .i64 EP] 36)) B cB us := by
          have k4' : Chg (slFp 3 A (s.ws.map entW).length c) (w3.alloc (.cells #[.int .i64 a, .int .i64 b, .int .i64 EP] 36)) w4 := by rw [← HES.out]; exact k4
          have := HB2.out.waiting HK3.out (Chg.alloc (fun k _ => w3.heap.size ≤ k) w3 _) k4' (Chg.alloc (fun k _ => w4.heap.size ≤ k) w4 (.cells #[.int .i64 a, .int .i64 b, .int .i64 EP] 36))
          rw [HUS.out]
          exact this
        have hbnew : RdS encE 3 (w4.alloc (.cells #[.int .i64 a, .int .i64 b, .int .i64 EP] 36)) (some ⟨w4.heap.size, 0, none⟩) [(a, b, EP)] := RdS.new1 encE 3 w4 36 (a, b, EP)
        have H4 := Lib.hid h4
        have K4 := Lib.hid k4
        have Q4 := Lib.hid q4
        clear h4 k4 q4 hA4 p2 p3 gin gnew
        go_wp2_with (first
            | (at_builtin; refine wpList_appendG entTy (by decide) encE_len encE_one rfl (.tmp 75) (.tmp 82) rfl B cB us (by rw [HLU.out]; rfl) hbin (some ⟨w4.heap.size, 0, none⟩) 1 [(a, b, EP)] rfl hbnew (by rw [HLU.out]; simp only [maxLen, List.length_singleton]; omega) (by rw [HLU.out]; simp only [List.length_singleton]; omega) ?_; intro B' cB' w6 h6 k6 q6))
        have fin : ABk w.heap.size G w w6 (k + 1) (addS s a b g) (rAddT r a b) F' A' c' B' cB' := HB2.out.added HRz.out HL3.out HK3.out HF3.out (Chg.alloc (fun k _ => w3.heap.size ≤ k) w3 _) (by rw [← HES.out]; exact K4.out) (by rw [← HES.out, ← HEP.out]; exact H4.out) Q4.out (Chg.alloc (fun k _ => w4.heap.size ≤ k) w4 _) (by rw [← HUS.out]; exact k6) (by rw [← HUS.out, ← HEP.out]; exact h6) q6
        have hwl : (addS s a b g).ws.length = es.length + 1 := by show (s.ws ++ [_]).length = _; rw [List.length_append, HLE.out, HN.out]; rfl
        have hul : (unA (addS s a b g).ws).length = us.length + 1 := by rw [unA_add, List.length_append, HLU.out, HM.out]; rfl
        have HFin := Lib.hid fin
        have HWL := Lib.hid hwl
        have HUL := Lib.hid hul
        clear fin hwl hul h6 k6 q6
        go_meet
        exact ⟨_, _, F', A', c', B', cB', by rw [HWL.out], by rw [HUL.out], HFin⟩
      · -- Close
        refine (close_any HB2.out.log (by constructor <;> omega)).mono ?_
        rintro e w3 ⟨rfl, L3, k3⟩
        have HB3 := Lib.hid (HB2.out.closed L3 k3)
        clear L3 k3
        have hcw : (closeS s).ws = s.ws := by unfold closeS; split <;> rfl
        have HCW := Lib.hid hcw
        clear hcw
        go_wp2_with fail
        go_meet
        exact ⟨closeS s, rCloseT r, F, A, c, B, cB, by rw [HCW.out, HN.out], by rw [HCW.out, HM.out], HB3⟩
      · -- Ack
        obtain ⟨E, hE⟩ : ∃ E, E = ackE s a := ⟨_, rfl⟩
        obtain ⟨R, hR⟩ : ∃ R, R = ackR s a := ⟨_, rfl⟩
        have hC := ack_any a HB2.out.log Ha.out
        rw [← hE, ← hR] at hC
        have HE := Lib.hid hE
        have HRr := Lib.hid hR
        clear hE hR
        refine hC.mono ?_
        rintro e w3 ⟨rfl, L3, k3⟩
        obtain ⟨t1, t2, t3, t4⟩ := HB2.out.turned k3
        have HL3 := Lib.hid L3
        have HK3 := Lib.hid k3
        have Hin := Lib.hid t3
        have Hwa := Lib.hid t4
        have p2 : w3.cell? ⟨wr.heap.size, 2, none⟩ = some (.int .i64 a) := k3.cell (fun hF => by have := HB.out.log.fp_lt hF; omega) q2
        have hx3 : wr.heap.size < w3.heap.size := Nat.lt_of_lt_of_le hb2.lt k3.size
        have hee : Blk (w3.alloc (.cells #[.int .i64 0, .int .i64 0, .int .i64 0] 36)) w3.heap.size 36 #[.int .i64 0, .int .i64 0, .int .i64 0] := Blk.new w3 _ _
        clear L3 k3 t1 t2 t3 t4 hC q0 q2 q3
        go_upto_region 24 with (first
          | ((with_reducible refine wpList_store_blk rfl 36 (.tmp 16) (.tmp 95) rfl w3.heap.size 36 #[.int .i64 0, .int .i64 0, .int .i64 0] #[.int .i64 E.1, .int .i64 E.2.1, .int .i64 E.2.2] ?hb rfl rfl (entSz _ _ _) (size3 _ _ _ _ _ _) (one3 rfl rfl rfl) ?_); (case hb => exact hee); intro w4 hb4 hg4 hs4))
        have kX := (Chg.alloc (fun j _ => w3.heap.size ≤ j) w3 (.cells #[.int .i64 0, .int .i64 0, .int .i64 0] 36)).trans (Chg.of_row (F := fun j _ => w3.heap.size ≤ j) hg4 hee hb4 rfl fun _ => Nat.le_refl _) fun _ _ _ h => h
        have hx4 : w3.heap.size < w4.heap.size := hb4.lt
        have Hin4 := Lib.hid (Hin.out.chg kX encE_len fun j i hj hle => by have := slFp_lt Hin.out (slFp_len Hin.out hj); omega)
        have Hwa4 := Lib.hid (Hwa.out.chg kX encE_len fun j i hj hle => by have := slFp_lt Hwa.out (slFp_len Hwa.out hj); omega)
        have HKX := Lib.hid kX
        have o4 : w4.cell? ⟨wr.heap.size, 2, none⟩ = some (.int .i64 a) := kX.cell (by omega) p2
        have e0 : w4.cell? ⟨w3.heap.size, 0, none⟩ = some (.int .i64 E.1) := hb4.cell 0
        have e1 : w4.cell? ⟨w3.heap.size, 1, none⟩ = some (.int .i64 E.2.1) := hb4.cell 1
        have e2 : w4.cell? ⟨w3.heap.size, 2, none⟩ = some (.int .i64 E.2.2) := hb4.cell 2
        obtain ⟨us, hus⟩ : ∃ us, us = unA s.ws := ⟨_, rfl⟩
        have HUS := Lib.hid hus
        have hum : us.length = m := by rw [hus, HM.out]
        have HUM := Lib.hid hum
        rw [← hus] at Hwa4
        obtain ⟨X, hX⟩ : ∃ X, X = w3.heap.size := ⟨_, rfl⟩
        rw [← hX] at hx4 e0 e1 e2 ⊢
        have HX := Lib.hid hX
        have hwX : wr.heap.size < X := by rw [hX]; exact hx3
        have HE0 := Lib.hid (And.intro e0 (And.intro e1 e2))
        clear hb4 hg4 hs4 hee kX p2 hus hum hX hx3 e0 e1 e2
        obtain ⟨O, hO⟩ : ∃ O, O = wr.heap.size := ⟨_, rfl⟩
        rw [← hO] at o4 hwX ⊢
        have HO := Lib.hid hO
        clear hO
        go_wp2_with fail
        go_loopw [18, 19, 20] (fun t18 t19 t20 wl => ∃ (q : Nat) (R' : Option Addr) (cR : Nat), q ≤ m ∧ t20 = .int .i64 q ∧ t18 = .slice R' (((us.take q).filter fun x => !(x.id == a)).map entW).length cR ∧ t19 = .bool ((us.take q).any fun x => x.id == a) ∧ Hid (GSl encE 3 36 wl R' cR (((us.take q).filter fun x => !(x.id == a)).map entW)) ∧ Hid (Chg (fun j _ => w4.heap.size ≤ j) w4 wl) ∧ Hid (∀ j i, slFp 3 R' 0 cR j i → w4.heap.size ≤ j)) (fun _ _ t20 _ => m - (intOf t20).toNat)
        case atStart => exact ⟨0, none, 0, Nat.zero_le _, rfl, rfl, rfl, Lib.hid GSl.nil_, Lib.hid (Chg.refl _ _), Lib.hid fun j i ⟨_, e, _⟩ => by cases e⟩
        case round =>
          obtain ⟨q, R', cR, hq, rfl, rfl, rfl, hg, hC, hf⟩ := hrel
          obtain ⟨Z, hZ⟩ : ∃ Z, Z = ((us.take q).filter fun x => !(x.id == a)).map entW := ⟨_, rfl⟩
          obtain ⟨fb, hfb⟩ : ∃ fb, fb = ((us.take q).any fun x => x.id == a) := ⟨_, rfl⟩
          rw [← hZ] at hg ⊢
          rw [← hfb]
          have HZ := Lib.hid hZ
          have HFB := Lib.hid hfb
          have hZl : Z.length ≤ m := by rw [hZ, List.length_map]; exact Nat.le_trans (List.length_filter_le _ _) (by rw [List.length_take, HUM.out]; omega)
          clear hZ hfb
          have ol : wr.cell? ⟨O, 2, none⟩ = some (.int .i64 a) := hC.out.cell (by omega) o4
          have hw4l := hC.out.size
          have hws := Hwa4.out.chg hC.out encE_len fun j i hj hle => by have := slFp_lt Hwa4.out (slFp_len Hwa4.out hj); omega
          by_cases hqm : q < m
          · have hqm' : (q : Int) < (m : Int) := by omega
            obtain ⟨x, hx⟩ : ∃ x, us[q]? = some x := ⟨_, List.getElem?_eq_getElem (by rw [HUM.out]; exact hqm)⟩
            have hmc : m ≤ cB := by have := hws.le; rw [List.length_map, HUM.out] at this; exact this
            obtain ⟨g, o, hBa, hgl, hcl⟩ := hws.cell (k := q) (x := entW x) (by rw [List.getElem?_map, hx]; rfl)
            subst hBa
            have y0 : wr.cell? ⟨g, o + q * 3, none⟩ = some (.int .i64 x.id) := (hcl 0 _ rfl).1
            have y1 : wr.cell? ⟨g, o + q * 3 + 1, none⟩ = some (.int .i64 x.blk) := (hcl 1 _ rfl).1
            have y2 : wr.cell? ⟨g, o + q * 3 + 2, none⟩ = some (.int .i64 x.ep) := (hcl 2 _ rfl).1
            have htk : us.take (q + 1) = us.take q ++ [x] := by rw [List.take_add_one, hx]; rfl
            by_cases hxa : x.id = a
            · have hf1 := ack_found HB2.out.sim.ids (x := x) (by rw [← HUS.out]; exact List.mem_of_getElem? hx)
              rw [hxa, ← HRr.out, ← HE.out] at hf1
              obtain ⟨hR0, hE0⟩ := hf1
              subst hR0
              subst hE0
              have l0 : wr.cell? ⟨X, 0, none⟩ = some (.int .i64 x.id) := hC.out.cell (by omega) HE0.out.1
              have l1 : wr.cell? ⟨X, 1, none⟩ = some (.int .i64 x.blk) := hC.out.cell (by omega) HE0.out.2.1
              have l2 : wr.cell? ⟨X, 2, none⟩ = some (.int .i64 x.ep) := hC.out.cell (by omega) HE0.out.2.2
              have hfl : ((us.take (q + 1)).filter fun x => !(x.id == a)).map entW = Z := by rw [htk, List.filter_append, HZ.out]; simp [hxa]
              have hfb : ((us.take (q + 1)).any fun x => x.id == a) = true := by rw [htk, List.any_append]; simp [hxa]
              have HFL := Lib.hid hfl
              have HFB2 := Lib.hid hfb
              have T0 : ∀ N, (wr.drewN N).drew.cell? ⟨X, 0, none⟩ = some (.int .i64 x.id) ∧ (wr.drewN N).drew.cell? ⟨X, 1, none⟩ = some (.int .i64 x.blk) ∧ (wr.drewN N).drew.cell? ⟨X, 2, none⟩ = some (.int .i64 x.ep) ∧ (wr.drewN N).drew.cell? ⟨g, o + q * 3, none⟩ = some (.int .i64 x.id) ∧ (wr.drewN N).drew.cell? ⟨g, o + q * 3 + 1, none⟩ = some (.int .i64 x.blk) ∧ (wr.drewN N).drew.cell? ⟨g, o + q * 3 + 2, none⟩ = some (.int .i64 x.ep) := fun N => ⟨l0, l1, l2, y0, y1, y2⟩
              have hXl : X < wr.heap.size := by omega
              have KZ : ∀ N v, Below (wr.drewN N).drew.heap.size (wr.drewN N).drew v → v.cell? ⟨X, 0, none⟩ = some (.int .i64 x.id) ∧ v.cell? ⟨X, 1, none⟩ = some (.int .i64 x.blk) ∧ v.cell? ⟨X, 2, none⟩ = some (.int .i64 x.ep) ∧ v.cell? ⟨g, o + q * 3, none⟩ = some (.int .i64 x.id) ∧ v.cell? ⟨g, o + q * 3 + 1, none⟩ = some (.int .i64 x.blk) ∧ v.cell? ⟨g, o + q * 3 + 2, none⟩ = some (.int .i64 x.ep) := fun N v hv =>
                ⟨(hv.cell (p := ⟨X, 0, none⟩) hXl).trans l0, (hv.cell (p := ⟨X, 1, none⟩) hXl).trans l1, (hv.cell (p := ⟨X, 2, none⟩) hXl).trans l2, (hv.cell (p := ⟨g, o + q * 3, none⟩) hgl).trans y0, (hv.cell (p := ⟨g, o + q * 3 + 1, none⟩) hgl).trans y1, (hv.cell (p := ⟨g, o + q * 3 + 2, none⟩) hgl).trans y2⟩
              have HKZ := Lib.hid KZ
              have HT0 := Lib.hid T0
              have SV := Lib.hid (fun w => sameEntry_val x.id x.blk x.ep x.id x.blk x.ep true w (by simp))
              have hxid : (x.id == a) = true := by simpa using hxa
              clear hws hcl hx hfl hfb T0 KZ htk hxa
              go_wp2_with fail
              go_quiet (fail)
              go_wp2_with fail
              go_region_held3 (fun w' => w'.cell? ⟨X, 0, none⟩ = some (.int .i64 x.id) ∧ w'.cell? ⟨X, 1, none⟩ = some (.int .i64 x.blk) ∧ w'.cell? ⟨X, 2, none⟩ = some (.int .i64 x.ep) ∧ w'.cell? ⟨g, o + q * 3, none⟩ = some (.int .i64 x.id) ∧ w'.cell? ⟨g, o + q * 3 + 1, none⟩ = some (.int .i64 x.blk) ∧ w'.cell? ⟨g, o + q * 3 + 2, none⟩ = some (.int .i64 x.ep)) (first | exact HT0.out _ | exact HKZ.out _ _ hB5.out) (first
                | (go_at_call 14; (with_reducible refine (num_any _ _).mono ?_); rintro e w' ⟨rfl, rfl⟩)
                | (go_at_call 27; (with_reducible refine (SV.out _).mono ?_); rintro e w5 ⟨rfl, k5⟩; have hB5 := Lib.hid k5; clear k5))
              have BB : Below wr.heap.size wr w5 := ⟨hB5.out.os, hB5.out.tape, hB5.out.output, hB5.out.size, hB5.out.block⟩
              have HBB := Lib.hid BB
              clear BB
              go_wp2_with fail
              go_roundw
              case rel => exact ⟨q + 1, R', cR, by omega, by go_num, by rw [HFL.out], by rw [HFB2.out], Lib.hid (by rw [HFL.out]; exact hg.out.chg (Chg.of_below (fun _ _ => False) HBB.out) encE_len fun _ _ _ h => h), Lib.hid (hC.out.trans (Chg.of_below (fun j _ => w4.heap.size ≤ j) HBB.out) fun _ _ _ h => h), hf⟩
              case measure => simp [intOf]; omega
            · have hfl : ((us.take (q + 1)).filter fun x => !(x.id == a)).map entW = Z ++ [entW x] := by rw [htk, List.filter_append, HZ.out]; simp [hxa]
              have hfb : ((us.take (q + 1)).any fun x => x.id == a) = fb := by rw [htk, List.any_append, HFB.out]; simp [hxa]
              have HFL := Lib.hid hfl
              have HFB2 := Lib.hid hfb
              have hxid : (x.id == a) = false := by simpa using hxa
              have gin : ∀ N, GSl encE 3 36 ((wr.drewN N).alloc (.cells #[.int .i64 x.id, .int .i64 x.blk, .int .i64 x.ep] 36)) R' cR Z := fun N => hg.out.chg (((Chg.refl (fun j _ => wr.heap.size ≤ j) wr).drewN N).trans (Chg.alloc (fun j _ => wr.heap.size ≤ j) _ _) fun _ _ _ h => h) encE_len fun j i hj hle => by have := slFp_lt hg.out (slFp_len hg.out hj); omega
              have gnew : ∀ N, RdS encE 3 ((wr.drewN N).alloc (.cells #[.int .i64 x.id, .int .i64 x.blk, .int .i64 x.ep] 36)) (some ⟨wr.heap.size, 0, none⟩) [entW x] := fun N => RdS.new1 encE 3 (wr.drewN N) 36 (entW x)
              clear hws hcl hx hfl hfb htk hxa
              go_wp2_with fail
              go_quiet (fail)
              go_wp2_with (first
                | (at_builtin; refine wpList_appendG entTy (by decide) encE_len encE_one rfl (.tmp 123) (.tmp 128) rfl R' cR Z rfl (gin _) (some ⟨wr.heap.size, 0, none⟩) 1 [entW x] rfl (gnew _) (by simp only [maxLen, List.length_singleton]; omega) (by simp only [List.length_singleton]; omega) ?_; intro A6 c6 w6 g6 k6 q6))
              have f6 : ∀ j i, slFp 3 A6 0 c6 j i → w4.heap.size ≤ j := fun j i hj => by
                rcases q6 with ⟨rfl, rfl⟩ | ⟨g', e6, hg'⟩
                · exact hf.out j i hj
                · obtain ⟨o', e, _⟩ := hj
                  have e1 : g' = j := by rw [e6] at e; injection e with e; exact congrArg Addr.block e
                  have h1 : wr.heap.size + 1 ≤ g' := by simpa using hg'
                  omega
              have C6 : Chg (fun j _ => w4.heap.size ≤ j) w4 w6 := ((hC.out.trans ((Chg.refl (fun j _ => w4.heap.size ≤ j) wr).drewN nq) fun _ _ _ h => h).trans (Chg.alloc (fun j _ => w4.heap.size ≤ j) _ _) fun _ _ _ h => h).trans k6 fun j i _ hs => hf.out j i (slFp_zero hs)
              rw [← HFL.out] at g6
              go_roundw
              case rel => exact ⟨q + 1, A6, c6, by omega, by go_num, by rw [HFL.out, List.length_append]; rfl, by rw [HFB2.out], Lib.hid g6, Lib.hid C6, Lib.hid f6⟩
              case measure => simp [intOf]; omega
          · obtain rfl : q = m := by omega
            have htk : us.take q = us := List.take_of_length_le (by rw [HUM.out]; exact Nat.le_refl _)
            have hZ2 : Z = ((unA s.ws).filter fun x => !(x.id == a)).map entW := by rw [HZ.out, htk, HUS.out]
            have hfb2 : fb = us.any fun x => x.id == a := by rw [HFB.out, htk]
            have hg2 := hg.out
            rw [hZ2] at hg2
            have fin := fun (w9 : World) (hb9 : Chg (fun j _ => wr.heap.size ≤ j) wr w9) => HB2.out.acked a HL3.out HK3.out ((HKX.out.trans (hC.out.mono fun j i _ hle => show w3.heap.size ≤ j by have := HX.out; omega) fun _ _ _ h => h).trans (hb9.mono fun j i _ hle => show w3.heap.size ≤ j by have := HX.out; omega) fun _ _ _ h => h) (hg2.chg hb9 encE_len fun j i hj hle => by have := slFp_lt hg2 (slFp_len hg2 hj); omega) fun j i hj => by have := hf.out j i hj; have := HX.out; omega
            have hlen1 : (ackT s a).ws.length = n := by
              have : (ackT s a).ws.length = s.ws.length := by
                unfold ackT
                split
                · simp [ackS]
                · rfl
              rw [this, HN.out]
            have hlen2 : (unA (ackT s a).ws).length = Z.length := by rw [unA_ack HB2.out.sim.ids, hZ2, List.length_map]
            have HFin := Lib.hid fin
            have H1 := Lib.hid hlen1
            have H2 := Lib.hid hlen2
            have hinr := Hin4.out.chg hC.out encE_len fun j i hj hle => by have := slFp_lt Hin4.out (slFp_len Hin4.out hj); omega
            have HAS := fun W (hW : Below wr.heap.size wr W) => has_any (c := c) (w := W) a (hinr.rds.keep hW.size fun ad _ hl => hW.block _ hl) (by rw [List.length_map]; have := HN.out; omega)
            rw [List.length_map, ← HN.out] at HAS
            have HAS := Lib.hid HAS
            clear hws hg2 fin hlen1 hlen2 hinr
            cases hfbc : fb with
            | true =>
              clear hZ2 hfb2 htk
              go_wp2_with fail
              obtain rfl := HO.out
              go_meet
              exact ⟨ackT s a, rAckT r a, F, A, c, R', cR, by rw [H1.out], by rw [H2.out], Lib.hid (HFin.out wr (Chg.refl _ _))⟩
            | false =>
              rw [hfbc] at hfb2
              have hno : ∀ x ∈ unA s.ws, x.id ≠ a := fun x hx e => by
                have h1 := List.any_eq_false.1 hfb2.symm x (by rw [HUS.out]; exact hx)
                simp [e] at h1
              have hlo := ack_lost hno
              rw [← HRr.out] at hlo
              clear hZ2 hfb2 htk hno
              rcases hlo with ⟨hR, hh⟩ | ⟨hR, hh⟩
              · subst hR
                rw [hh] at HAS
                clear hh
                go_wp2_with (first
                  | (go_at_call 13; (with_reducible refine (HAS.out _ ?_).mono ?_); (first | exact Below.refl _ _ | skip); rintro e w7 ⟨rfl, rfl⟩)
                  | (go_at_call 14; (with_reducible refine (num_any _ _).mono ?_); rintro e w' ⟨rfl, rfl⟩))
                obtain rfl := HO.out
                go_meet
                exact ⟨ackT s a, rAckT r a, F, A, c, R', cR, by rw [H1.out], by rw [H2.out], Lib.hid (HFin.out wr (Chg.refl _ _))⟩
              · subst hR
                rw [hh] at HAS
                clear hh
                go_wp2_with (first
                  | (go_at_call 13; (with_reducible refine (HAS.out _ ?_).mono ?_); (first | exact Below.refl _ _ | skip); rintro e w7 ⟨rfl, rfl⟩)
                  | (go_at_call 14; (with_reducible refine (num_any _ _).mono ?_); rintro e w' ⟨rfl, rfl⟩))
                obtain rfl := HO.out
                go_meet
                exact ⟨ackT s a, rAckT r a, F, A, c, R', cR, by rw [H1.out], by rw [H2.out], Lib.hid (HFin.out wr (Chg.refl _ _))⟩
      · -- Next
        have hO := oldest_any (c := c) HB2.out.inn.rds (by rw [List.length_map]; have := HN.out; omega)
        rw [List.length_map, ← HN.out] at hO
        obtain ⟨E, hE⟩ : ∃ E, E = oldE (s.ws.map entW) := ⟨_, rfl⟩
        obtain ⟨N, hNN⟩ : ∃ N, N = oldN (s.ws.map entW) := ⟨_, rfl⟩
        rw [← hE, ← hNN] at hO
        have HO := Lib.hid hO
        clear hO hE hNN
        by_cases hb : barOk s E N
        case neg =>
          have Hb := Lib.hid hb
          clear hb
          go_wp2_with (first
            | (go_at_call 24; (with_reducible refine HO.out.mono ?_); rintro e w' ⟨rfl, m2, rfl⟩)
            | (go_at_call 18; (with_reducible refine (barrier_no' _ _ (HB2.out.drewN _).log Hb.out).mono ?_); rintro e w' ⟨rfl, m3, rfl⟩)
            | (go_at_call 14; (with_reducible refine (num_any _ _).mono ?_); rintro e w' ⟨rfl, rfl⟩))
          go_meet
          exact ⟨s, r, F, A, c, B, cB, by rw [HN.out], by rw [HM.out], Lib.hid (HB2.out.drewN _).next⟩
        have hld : lead s.ws E = N := by obtain ⟨_, _, _, _, _, e⟩ := hb; omega
        have hNn : N ≤ n := by rw [← hld, HN.out]; exact lead_le _ _
        have hnc : n ≤ c := by have := HB2.out.inn.le; rw [List.length_map] at this; have := HN.out; omega
        have Hb := Lib.hid hb
        have hm1 : (N : Int) ≤ (n : Int) := by omega
        have hm2 : (n : Int) ≤ (c : Int) := by omega
        have hm3 : (0 : Int) ≤ (N : Int) := by omega
        have hm4 : (N : Int) ≤ (c : Int) := by omega
        clear hb hld
        go_wp2_with (first
          | (go_at_call 24; (with_reducible refine HO.out.mono ?_); rintro e w' ⟨rfl, m2, rfl⟩))
        refine (barrier_yes' E N (HB2.out.drewN m2).log Hb.out).mono ?_
        rintro e w3 ⟨A4, F4, rfl, L3, k3, f3, _⟩
        have HL3 := Lib.hid L3
        have HK3 := Lib.hid k3
        have HF3 := Lib.hid f3
        obtain ⟨t1, t2, t3, t4⟩ := (HB2.out.drewN m2).turned k3
        have Hwa := Lib.hid t4
        clear L3 k3 f3 t1 t2 t3 t4 HO q0 q2 q3
        go_upto_region 40 with (first
          | (go_at_call 14; (with_reducible refine (num_any _ _).mono ?_); rintro e w' ⟨rfl, rfl⟩))
        obtain ⟨A9, hA9⟩ : ∃ A9, A9 = (if c = N then A else Option.map (fun x => x.add (N * 3)) A) := ⟨_, rfl⟩
        rw [← hA9]
        have HA9 := Lib.hid hA9
        clear hA9
        obtain ⟨us, hus⟩ : ∃ us, us = unA s.ws := ⟨_, rfl⟩
        have HUS := Lib.hid hus
        have hum : us.length = m := by rw [hus, HM.out]
        have HUM := Lib.hid hum
        rw [← hus] at Hwa
        clear hus hum
        go_wp2_with fail
        go_loopw [25, 26] (fun t25 t26 wl => ∃ (q : Nat) (R' : Option Addr) (cR : Nat), q ≤ m ∧ t26 = .int .i64 q ∧ t25 = .slice R' (((us.take q).filter fun x => !(x.ep == E)).map entW).length cR ∧ Hid (GSl encE 3 36 wl R' cR (((us.take q).filter fun x => !(x.ep == E)).map entW)) ∧ Hid (Chg (fun j _ => w3.heap.size ≤ j) w3 wl) ∧ Hid (∀ j i, slFp 3 R' 0 cR j i → w3.heap.size ≤ j)) (fun _ t26 _ => m - (intOf t26).toNat)
        case atStart => exact ⟨0, none, 0, Nat.zero_le _, rfl, rfl, Lib.hid GSl.nil_, Lib.hid (Chg.refl _ _), Lib.hid fun j i ⟨_, e, _⟩ => by cases e⟩
        case round =>
          obtain ⟨q, R', cR, hq, rfl, rfl, hg, hC, hf⟩ := hrel
          obtain ⟨Z, hZ⟩ : ∃ Z, Z = ((us.take q).filter fun x => !(x.ep == E)).map entW := ⟨_, rfl⟩
          rw [← hZ] at hg ⊢
          have HZ := Lib.hid hZ
          have hZl : Z.length ≤ m := by rw [hZ, List.length_map]; exact Nat.le_trans (List.length_filter_le _ _) (by rw [List.length_take, HUM.out]; omega)
          clear hZ
          have hws := Hwa.out.chg hC.out encE_len fun j i hj hle => by have := slFp_lt Hwa.out (slFp_len Hwa.out hj); omega
          have hw3l := hC.out.size
          by_cases hqm : q < m
          · have hqm' : (q : Int) < (m : Int) := by omega
            obtain ⟨x, hx⟩ : ∃ x, us[q]? = some x := ⟨_, List.getElem?_eq_getElem (by rw [HUM.out]; exact hqm)⟩
            have hmc : m ≤ cB := by have := hws.le; rw [List.length_map, HUM.out] at this; exact this
            obtain ⟨g, o, hBa, hgl, hcl⟩ := hws.cell (k := q) (x := entW x) (by rw [List.getElem?_map, hx]; rfl)
            subst hBa
            have y0 : wr.cell? ⟨g, o + q * 3, none⟩ = some (.int .i64 x.id) := (hcl 0 _ rfl).1
            have y1 : wr.cell? ⟨g, o + q * 3 + 1, none⟩ = some (.int .i64 x.blk) := (hcl 1 _ rfl).1
            have y2 : wr.cell? ⟨g, o + q * 3 + 2, none⟩ = some (.int .i64 x.ep) := (hcl 2 _ rfl).1
            have htk : us.take (q + 1) = us.take q ++ [x] := by rw [List.take_add_one, hx]; rfl
            by_cases hxa : x.ep = E
            · have hfl : ((us.take (q + 1)).filter fun x => !(x.ep == E)).map entW = Z := by rw [htk, List.filter_append, HZ.out]; simp [hxa]
              have HFL := Lib.hid hfl
              have hxid : (x.ep == E) = true := by simpa using hxa
              clear hws hcl hx hfl htk hxa
              go_wp2_with fail
              go_roundw
              case rel => exact ⟨q + 1, R', cR, by omega, by go_num, by rw [HFL.out], Lib.hid (by rw [HFL.out]; exact hg.out), hC, hf⟩
              case measure => simp [intOf]; omega
            · have hfl : ((us.take (q + 1)).filter fun x => !(x.ep == E)).map entW = Z ++ [entW x] := by rw [htk, List.filter_append, HZ.out]; simp [hxa]
              have HFL := Lib.hid hfl
              have hxid : (x.ep == E) = false := by simpa using hxa
              have gin : GSl encE 3 36 (wr.alloc (.cells #[.int .i64 x.id, .int .i64 x.blk, .int .i64 x.ep] 36)) R' cR Z := hg.out.chg (Chg.alloc (fun j _ => wr.heap.size ≤ j) _ _) encE_len fun j i hj hle => by have := slFp_lt hg.out (slFp_len hg.out hj); omega
              have gnew : RdS encE 3 (wr.alloc (.cells #[.int .i64 x.id, .int .i64 x.blk, .int .i64 x.ep] 36)) (some ⟨wr.heap.size, 0, none⟩) [entW x] := RdS.new1 encE 3 wr 36 (entW x)
              clear hws hcl hx hfl htk hxa
              go_wp2_with (first
                | (at_builtin; refine wpList_appendG entTy (by decide) encE_len encE_one rfl (.tmp 186) (.tmp 191) rfl R' cR Z rfl gin (some ⟨wr.heap.size, 0, none⟩) 1 [entW x] rfl gnew (by simp only [maxLen, List.length_singleton]; omega) (by simp only [List.length_singleton]; omega) ?_; intro A6 c6 w6 g6 k6 q6))
              have f6 : ∀ j i, slFp 3 A6 0 c6 j i → w3.heap.size ≤ j := fun j i hj => by
                rcases q6 with ⟨rfl, rfl⟩ | ⟨g', e6, hg'⟩
                · exact hf.out j i hj
                · obtain ⟨o', e, _⟩ := hj
                  have e1 : g' = j := by rw [e6] at e; injection e with e; exact congrArg Addr.block e
                  have h1 : wr.heap.size + 1 ≤ g' := by simpa using hg'
                  omega
              have C6 : Chg (fun j _ => w3.heap.size ≤ j) w3 w6 := (hC.out.trans (Chg.alloc (fun j _ => w3.heap.size ≤ j) _ _) fun _ _ _ h => h).trans k6 fun j i _ hs => hf.out j i (slFp_zero hs)
              rw [← HFL.out] at g6
              go_roundw
              case rel => exact ⟨q + 1, A6, c6, by omega, by go_num, by rw [HFL.out, List.length_append]; rfl, Lib.hid g6, Lib.hid C6, Lib.hid f6⟩
              case measure => simp [intOf]; omega
          · obtain rfl : q = m := by omega
            have htk : us.take q = us := List.take_of_length_le (by rw [HUM.out]; exact Nat.le_refl _)
            have hZ2 : Z = ((unA s.ws).filter fun x => !(x.ep == E)).map entW := by rw [HZ.out, htk, HUS.out]
            have hg2 := hg.out
            rw [hZ2] at hg2
            have fin := (HB2.out.drewN m2).left Hb.out HL3.out HK3.out HF3.out hC.out hg2 hf.out
            rw [← HA9.out] at fin
            have hu2 : (unA (s.ws.drop N)).length = Z.length := by
              have hb := Hb.out
              obtain ⟨x, l, h1, h2, h3, h4⟩ := hb
              have hld : lead s.ws E = N := by omega
              have := unA_left (e := E) HB2.out.sim.ord (by rw [← h3]; exact HB2.out.sim.min h1)
              rw [hld] at this
              rw [this, hZ2, List.length_map]
            have hd2 : (s.ws.drop N).length = n - N := by rw [List.length_drop, HN.out]
            have HFin := Lib.hid fin
            have HU2 := Lib.hid hu2
            have HD2 := Lib.hid hd2
            clear hws hg2 fin hZ2 htk hu2 hd2
            go_wp2_with fail
            go_meet
            exact ⟨_, _, F4, A9, c - N, R', cR, by rw [← HD2.out], by rw [← HU2.out], HFin⟩
      · go_meet
        exact ⟨s, r, F, A, c, B, cB, by rw [HN.out], by rw [HM.out], Lib.hid HB2.out.next⟩
    case rest =>
      obtain ⟨s', r', F', A', c', B', cB', rfl, rfl, hB⟩ := hcut
      have hl1 := hB.out.len
      have hlim := hB.out.lim
      have hm2 : (unA s'.ws).length ≤ 1024 := by have := (unA_sub s'.ws).length_le; have := hlim.2.1; omega
      have HU := Lib.hid hB.out.unacked
      clear HB2 hl1 hlim
      go_wp2_with (first
            | (go_at_call 28; (with_reducible refine HU.out.mono ?_); rintro e w3 ⟨A1, c1, rfl, r1, r2, hB3⟩; have SE := Lib.hid (same_yes (cA := c1) (cB := cB') r1 r2 (List.length_map _) (List.length_map _) (by omega)); have HB3 := Lib.hid hB3; clear r1 r2 hB3)
            | (go_at_call 25; (with_reducible refine SE.out.mono ?_); rintro e w5 ⟨rfl, k5⟩))
      go_roundw
      case rel => exact ⟨k + 1, s', r', F', A', c', B', cB', by omega, by go_num, rfl, rfl, Lib.hid (HB3.out.move (Chg.of_below _ k5))⟩
      case measure => simp [intOf]; omega
theorem acks_law (limit width : Int) (A0 : Option Addr) (c0 : Nat) (l : List (Int × Int × Int × Int)) (w : World) (_ : (Lit.int .i64 limit).wf = true) (_ : (Lit.int .i64 width).wf = true) (hl : l.length ≤ 140737488351232) (hs : RdS encO4 4 w A0 l) (hwf : ∀ x ∈ l, (Lit.int .i64 x.2.2.1).wf = true) :
    Calls Try.prog 7 #[.int .i64 limit, .int .i64 width, .slice A0 l.length c0] w fun e w' => e = .returned (.bool true) ∧ Below w.heap.size w w' := by
  by_cases h : goodB limit width
  · exact acks_yes h hl hs hwf
  · exact acks_no h
end
end Go.Proofs.Ytagkhhoimgighaa
