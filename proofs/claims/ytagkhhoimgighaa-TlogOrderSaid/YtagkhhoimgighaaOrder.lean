/- TlogOrder: the walk. -/
import Derived.Test.YtagkhhoimgighaaOrdBk
import Derived.Test.YtagkhhoimgighaaSettled
namespace Go.Proofs.Ytagkhhoimgighaa
open Go.RowKit

section
variable {base G : Nat} {w0 wr w' : World} {limit width : Int} {k nx op turn : Nat} {cs : List Nat} {ws : List Wr} {F : Nat → Nat → Prop} {A : Option Addr} {c : Nat} {es : List Ent3}
theorem OBk.size_es (h : OBk base G w0 wr limit width k nx op turn cs ws F A c) (he : es = ws.map ent) : Calls Try.prog 26 #[.pointer (some ⟨G, 0, none⟩)] wr fun e w' => e = .returned (.int .i64 es.length) ∧ wr = w' := by
  rw [he, List.length_map]
  exact size_any h.log
theorem OBk.oldest (h : OBk base G w0 wr limit width k nx op turn cs ws F A c) (he : es = ws.map ent) (hl : es.length ≤ 9223372036854775807) : Calls Try.prog 24 #[.slice A es.length c] wr fun e w' => e = .returned (.tuple #[.int .i64 (oldE es), .int .i64 (oldN es)]) ∧ ∃ n, w' = wr.drewN n := by
  subst he
  exact oldest_any h.inn.rds hl
theorem OBk.setO {g : Nat} {W : World} {u v : Value} (h : OBk base G w0 wr limit width k nx op turn cs ws F A c) (m : Nat) (hW : W = ((wr.drewN m).setCell ⟨g, 2, none⟩ u).setCell ⟨g, 3, none⟩ v) (hg : base ≤ g) (hF : ∀ i, ¬ F g i) (hA : ∀ i, ¬ slFp 3 A 0 c g i) : OBk base G w0 W limit width k nx op turn cs ws F A c := by
  subst hW
  refine h.move1 (g := g) ?_ hg hF hA
  exact (((Chg.refl (fun k _ => k = g ∨ wr.heap.size ≤ k) wr).drewN m).trans (Chg.setCell (fun k _ => k = g ∨ wr.heap.size ≤ k) _ (.inl rfl) u) fun _ _ _ h => h).trans (Chg.setCell (fun k _ => k = g ∨ wr.heap.size ≤ k) _ (.inl rfl) v) fun _ _ _ h => h
theorem OBk.fail_es (h : OBk base G w0 wr limit width k nx op turn cs ws F A c) (he : es = ws.map ent) (hw : 0 ≤ width) (hl : 0 ≤ limit) : Calls Try.prog 19 #[.pointer (some ⟨G, 0, none⟩)] wr fun e w' =>
    ∃ A3 F3, e = .returned (.slice A3 es.length es.length) ∧ OBk base G w0 w' limit width (k + 1) 1 0 turn [] [] F3 none 0 ∧ RdS encE 3 w' A3 es ∧ RdS encE 3 w' A es := by
  refine (fail_any h.log).mono ?_
  rintro e w3 ⟨A3, F3, rfl, L3, k3, f3, hh⟩
  have h2 := (h.turned k3).2.2
  rw [← he] at h2
  exact ⟨A3, F3, by rw [he, List.length_map], h.failed L3 k3 f3 hw hl, by rw [he]; exact rds_ent hh.1.rds, h2.rds⟩
/-- a barrier that is taken, with the list's beginning -/
theorem OBk.bar_es {m : Nat} {cs' : List Nat} (h : OBk base G w0 wr limit width k nx op turn (m :: cs') ws F A c) (he : es = ws.map ent) (hm : m ≤ ws.length) (hb : barOk ⟨limit, width, (nx : Int) + (m :: cs').length, op, turn, ws⟩ nx m) :
    Calls Try.prog 18 #[.pointer (some ⟨G, 0, none⟩), .int .i64 nx, .int .i64 m] wr fun e w' => ∃ A4 F4, e = .returned (.tuple #[.slice A4 m m, .int .i64 0]) ∧
      OBk base G w0 w' limit width (k + 1) (nx + 1) op turn cs' (ws.drop m) F4 (if c = m then A else A.map (·.add (m * 3))) (c - m) ∧ RdS encE 3 w' A4 (es.take m) ∧ RdS encE 3 w' A (es.take m) ∧ Chg F wr w' := by
  refine (barrier_yes' nx m h.log hb).mono ?_
  rintro e w4 ⟨A4, F4, rfl, L4, k4, f4, hh⟩
  have h2 := (h.turned k4).2.2
  rw [← he] at h2
  exact ⟨A4, F4, rfl, h.left L4 k4 f4 hm, by rw [he, ← List.map_take]; exact rds_ent hh.1.rds, h2.rds.take m, k4⟩
theorem same_yes {A B : Option Addr} {cA cB n : Nat} {l : List Ent3} {w : World} (hr : RdS encE 3 w A l) (hm : RdS encE 3 w B l) (hn : l.length = n) (hl : n ≤ 9223372036854775807) :
    Calls Try.prog 25 #[.slice A n cA, .slice B n cB] w fun e w' => e = .returned (.bool true) ∧ Below w.heap.size w w' := by
  subst hn
  have := sameEntries_any (cA := cA) (cB := cB) hr hm hl hl
  rwa [decide_eq_true rfl] at this
end
section
variable {limit width : Int} {A0 : Option Addr} {c0 : Nat} {l : List (Int × Int × Int × Int)} {w : World}
set_option maxRecDepth 20000 in
theorem order_no (h : ¬ goodB limit width) : Calls Try.prog 6 #[.int .i64 limit, .int .i64 width, .slice A0 l.length c0] w fun e w' => e = .returned (.bool true) ∧ Below w.heap.size w w' := by
  have H := Lib.hid (good_no limit width w h)
  clear h
  go_enter Try.func6, Try.ntmps6
  go_wp2_with (go_at_call 10; refine H.out.mono ?_; rintro e w' ⟨rfl, rfl⟩)
  go_ret
  exact ⟨rfl, Below.refl _ _⟩
set_option maxRecDepth 20000 in
set_option maxHeartbeats 4000000 in
theorem order_yes (hg : goodB limit width) (hl : l.length ≤ 140737488351232) (hs : RdS encO4 4 w A0 l) (hwf : ∀ x ∈ l, (Lit.int .i64 x.2.2.1).wf = true) :
    Calls Try.prog 6 #[.int .i64 limit, .int .i64 width, .slice A0 l.length c0] w fun e w' => e = .returned (.bool true) ∧ Below w.heap.size w w' := by
  have Hg := Lib.hid hg
  have H1 := Lib.hid (good_yes limit width w hg)
  have H2 := Lib.hid (made_any limit width w hg)
  have Hwf := Lib.hid hwf
  obtain ⟨g1, g2, g3, g4⟩ := hg
  clear hwf
  go_enter Try.func6, Try.ntmps6
  go_wp2_with (first
    | (go_at_call 10; refine H1.out.mono ?_; rintro e w' ⟨rfl, rfl⟩)
    | (go_at_call 11; refine H2.out.mono ?_; rintro e1 w1 ⟨G, F0, rfl, L0, b0, f0⟩))
  have B0 : OBk w.heap.size G w w1 limit width 0 1 0 0 [] [] F0 none 0 := ⟨b0, b0.size, L0, GSl.nil_, f0, (fun j i ⟨o, ho, _⟩ => by cases ho), rfl, (fun n hn => by cases hn), by omega, by simp; omega, by omega, Nat.le_refl _, by simp⟩
  have HB0 := Lib.hid B0
  clear L0 b0 f0 B0 H1 H2
  go_loopw [9, 10, 11] (fun t9 t10 t11 wr => ∃ (k nx op turn : Nat) (cs : List Nat) (ws : List Wr) (F : Nat → Nat → Prop) (A : Option Addr) (c : Nat) (es : List Ent3), k ≤ l.length ∧ t11 = .int .i64 k ∧ t10 = .int .i64 nx ∧ t9 = .slice A es.length c ∧ es = ws.map ent ∧ OBk w.heap.size G w wr limit width k nx op turn cs ws F A c) (fun _ _ t11 _ => l.length - (intOf t11).toNat)
  case atStart => exact ⟨0, 1, 0, 0, [], [], F0, none, 0, [], by omega, rfl, rfl, rfl, rfl, HB0.out⟩
  case round =>
    obtain ⟨k, nx, op, turn, cs, ws, F, A, c, es, hk, rfl, rfl, rfl, hes, hB⟩ := hrel
    have Hes := Lib.hid hes
    have hlen : es.length = ws.length := by rw [hes, List.length_map]
    have HLN := Lib.hid hlen
    clear hes hlen
    clear HB0
    by_cases hkl : k < l.length
    case neg =>
      obtain rfl : k = l.length := by omega
      have HB := Lib.hid hB
      clear hB
      have hel : (es.length : Int) ≤ 1024 := by have := HLN.out; have := HB.out.l1; omega
      go_wp2_with fail
      refine (HB.out.fail_es Hes.out (by omega) (by omega)).mono ?_
      rintro e w3 ⟨A3, F3, rfl, hB3, hr1, hr2⟩
      have HB3 := Lib.hid hB3
      have SE := Lib.hid (same_yes (cA := es.length) (cB := c) hr1 hr2 rfl (by omega))
      clear hr1 hr2 hB3
      go_wp2_with (first
        | (go_at_call 25; (with_reducible refine SE.out.mono ?_); rintro e w5 ⟨rfl, k5⟩)
        | (go_at_call 26; (with_reducible refine ((HB3.out.move (Chg.of_below _ k5)).size_es (es := []) rfl).mono ?_); rintro e w' ⟨rfl, rfl⟩)
        | (go_at_call 16; (with_reducible refine (open_any (HB3.out.move (Chg.of_below _ k5)).log).mono ?_); rintro e w' ⟨rfl, rfl⟩))
      go_ret
      exact ⟨rfl, (HB3.out.move (Chg.of_below _ k5)).bel⟩
    obtain ⟨sb, so, ⟨kd, of_, a, b⟩, rfl, hsb, hx, hc⟩ := hs.at_ hkl
    have c0 : wr.cell? ⟨sb, so + k * 4, none⟩ = some (.int .i64 kd) := (hB.bel.cell (p := ⟨sb, so + k * 4, none⟩) hsb).trans (hc 0 _ rfl)
    have c1 : wr.cell? ⟨sb, so + k * 4 + 1, none⟩ = some (.int .i64 of_) := (hB.bel.cell (p := ⟨sb, so + k * 4 + 1, none⟩) hsb).trans (hc 1 _ rfl)
    have c2 : wr.cell? ⟨sb, so + k * 4 + 2, none⟩ = some (.int .i64 a) := (hB.bel.cell (p := ⟨sb, so + k * 4 + 2, none⟩) hsb).trans (hc 2 _ rfl)
    have c3 : wr.cell? ⟨sb, so + k * 4 + 3, none⟩ = some (.int .i64 b) := (hB.bel.cell (p := ⟨sb, so + k * 4 + 3, none⟩) hsb).trans (hc 3 _ rfl)
    have ha : (Lit.int .i64 a).wf = true := Hwf.out _ (List.mem_of_getElem? hx)
    have Ha := Lib.hid ha
    have HB := Lib.hid hB
    have he : Blk (wr.alloc (.cells #[.int .i64 0, .int .i64 0, .int .i64 0, .int .i64 0] 29)) wr.heap.size 29 #[.int .i64 0, .int .i64 0, .int .i64 0, .int .i64 0] := Blk.new wr _ _
    clear hx hc ha hB
    go_upto_block 2 with (first
          | ((with_reducible refine wpList_store_blk rfl 29 (.tmp 12) (.tmp 43) rfl wr.heap.size 29 #[.int .i64 0, .int .i64 0, .int .i64 0, .int .i64 0] #[.int .i64 kd, .int .i64 of_, .int .i64 a, .int .i64 b] ?hb rfl rfl (opSz _ _ _ _) (size4 _ _ _ _ _ _ _ _) (one4 rfl rfl rfl rfl) ?_); (case hb => exact he); intro w2 hb2 hg2 hs2; have q0 := hb2.cell 0; have q2 := hb2.cell 2; have q3 := hb2.cell 3; have HB2 := Lib.hid (HB.out.move ((Chg.alloc (fun k _ => wr.heap.size ≤ k) wr _).trans (Chg.of_row (F := fun k _ => wr.heap.size ≤ k) hg2 he hb2 rfl fun _ => Nat.le_refl _) fun _ _ _ h => h)); clear c0 c1 c2 c3 he))
    go_cut [9, 10] (fun t9 t10 wx => ∃ (nx' op' turn' : Nat) (cs' : List Nat) (ws' : List Wr) (F' : Nat → Nat → Prop) (A' : Option Addr) (c' : Nat) (es' : List Ent3), t10 = .int .i64 nx' ∧ t9 = .slice A' es'.length c' ∧ es' = ws'.map ent ∧ OBk w.heap.size G w wx limit width (k + 1) nx' op' turn' cs' ws' F' A' c')
    case first =>
      have hf1 := HB2.out.f1
      have hl1 := HB2.out.l1
      have ht1 := HB2.out.t1
      have hs1 := HB2.out.s1
      have hn1 := HB2.out.n1
      have hel : (es.length : Int) ≤ 1024 := by have := HLN.out; omega
      go_wp2_with fail
      · -- Add
        by_cases hR : addR ⟨limit, width, (nx : Int) + cs.length, op, turn, ws⟩ a b = 0
        case neg =>
          obtain ⟨r, hr⟩ : ∃ r, addR ⟨limit, width, (nx : Int) + cs.length, op, turn, ws⟩ a b = r := ⟨_, rfl⟩
          rw [hr] at hR
          have hC := Lib.hid (add_no' HB2.out.log Ha.out hr hR)
          have hr0 : (r == 0) = false := by rw [beq_eq_false_iff_ne]; exact hR
          clear hr hR
          refine hC.out.mono ?_
          rintro e w3 ⟨rfl, m3, rfl⟩
          clear hC
          go_wp2_with (first
            | (go_at_call 14; (with_reducible refine (num_any _ _).mono ?_); rintro e w' ⟨rfl, rfl⟩))
          go_meet
          exact ⟨nx, op, turn, cs, ws, F, A, c, es, rfl, rfl, Hes.out, (HB2.out.drewN m3).next⟩
        have hlt : (ws.length : Int) < limit ∧ (op : Int) < width := by
          have := addR_zero hR
          dsimp only at this
          omega
        have HLT := Lib.hid hlt
        have hC := Lib.hid (add_yes' HB2.out.log Ha.out hR (by omega) g2 g4 (by omega))
        obtain ⟨EP, hEP⟩ : ∃ EP : Int, EP = (nx : Int) + cs.length := ⟨_, rfl⟩
        rw [← hEP] at hC
        have HEP := Lib.hid hEP
        clear hlt hR hEP
        refine hC.out.mono ?_
        rintro e w3 ⟨rfl, g, F', L3, k3, f3⟩
        have gin : GSl encE 3 36 (w3.alloc (.cells #[.int .i64 a, .int .i64 b, .int .i64 EP] 36)) A c es := by
          have h3 := (HB2.out.turned k3).2.2
          rw [← Hes.out] at h3
          exact h3.chg (Chg.alloc (fun k _ => w3.heap.size ≤ k) w3 _) encE_len fun j i hj hle => by have := h3.fp_lt hj; omega
        have gnew : RdS encE 3 (w3.alloc (.cells #[.int .i64 a, .int .i64 b, .int .i64 EP] 36)) (some ⟨w3.heap.size, 0, none⟩) [(a, b, EP)] := RdS.new1 encE 3 w3 36 (a, b, EP)
        have p2 : w3.cell? ⟨wr.heap.size, 2, none⟩ = some (.int .i64 a) := k3.cell (fun hF => by have := HB.out.log.fp_lt hF; omega) q2
        have p3 : w3.cell? ⟨wr.heap.size, 3, none⟩ = some (.int .i64 b) := k3.cell (fun hF => by have := HB.out.log.fp_lt hF; omega) q3
        have hl63 : es.length + [(a, b, EP)].length ≤ maxLen := by unfold maxLen; simp only [List.length_singleton]; omega
        have hlb : (es.length + [(a, b, EP)].length) * 24 ≤ 140737488355328 := by simp only [List.length_singleton]; omega
        have HL3 := Lib.hid L3
        clear L3 q0 q2 q3 hC
        go_wp2_with (first
            | (go_at_call 14; (with_reducible refine (num_any _ _).mono ?_); rintro e w' ⟨rfl, rfl⟩)
            | (at_builtin; (with_reducible refine wpList_appendG entTy (by decide) encE_len encE_one rfl (.tmp 61) (.tmp 68) rfl A c es rfl gin (some ⟨w3.heap.size, 0, none⟩) 1 [(a, b, EP)] rfl gnew hl63 hlb ?_); intro A' c' w4 h4 k4 q4))
        have h4' : GSl encE 3 36 w4 A' c' (ws.map ent ++ [(a, b, (nx : Int) + cs.length)]) := by rw [← Hes.out, ← HEP.out]; exact h4
        have k4' : Chg (slFp 3 A (ws.map ent).length c) (w3.alloc (.cells #[.int .i64 a, .int .i64 b, .int .i64 EP] 36)) w4 := by rw [← Hes.out]; exact k4
        obtain ⟨ws', he4, hB4⟩ := HB2.out.added (by rw [← HEP.out]; exact HL3.out) k3 f3 (Chg.alloc (fun k _ => w3.heap.size ≤ k) w3 _) k4' h4' q4 HLT.out.1 HLT.out.2
        go_meet
        exact ⟨nx, op + 1, turn + 1, cs, ws', F', A', c', es ++ [(a, b, EP)], rfl, by rw [List.length_append]; rfl, by rw [he4, Hes.out, HEP.out], hB4⟩
      · -- Close
        refine (close_any HB2.out.log (by show _ ∧ _; dsimp only; omega)).mono ?_
        rintro e w3 ⟨rfl, L3, k3⟩
        obtain ⟨op', cs', hB3⟩ := HB2.out.closed L3 k3
        have HB3 := Lib.hid hB3
        clear L3 k3 hB3
        go_wp2
        go_meet
        exact ⟨nx, op', turn, cs', ws, F, A, c, es, rfl, rfl, Hes.out, HB3.out⟩
      · -- Ack
        refine (ack_any a HB2.out.log Ha.out).mono ?_
        rintro e w3 ⟨rfl, L3, k3⟩
        obtain ⟨ws', he3, hB3⟩ := HB2.out.acked L3 k3
        have HB3 := Lib.hid hB3
        have He3 := Lib.hid he3
        clear L3 k3 hB3 he3
        go_wp2
        go_meet
        exact ⟨nx, op, turn, cs, ws', F, A, c, es, rfl, rfl, by rw [Hes.out, He3.out], HB3.out⟩
      · -- Barrier, kind 3
        have hk3 : kd = 3 := by simpa using (show (kd == 3) = true by assumption)
        subst hk3
        have hO := HB2.out.oldest Hes.out (by omega)
        obtain ⟨E, N, hEN⟩ : ∃ (E : Int) (N : Nat), E = oldE es ∧ N = oldN es := ⟨_, _, rfl, rfl⟩
        rw [← hEN.1, ← hEN.2] at hO
        have HO := Lib.hid hO
        have HEN := Lib.hid hEN
        clear hO hEN
        by_cases hb : barOk ⟨limit, width, (nx : Int) + cs.length, op, turn, ws⟩ a b
        case neg =>
          have Hb := Lib.hid hb
          clear hb
          go_wp2_with (first
            | (go_at_call 24; (with_reducible refine HO.out.mono ?_); rintro e w' ⟨rfl, m2, rfl⟩))
          go_wp2_with (first
            | (go_at_call 18; (with_reducible refine (barrier_no' _ _ (HB2.out.drewN m2).log Hb.out).mono ?_); rintro e w' ⟨rfl, m3, rfl⟩)
            | (go_at_call 14; (with_reducible refine (num_any _ _).mono ?_); rintro e w' ⟨rfl, rfl⟩))
          go_roundw
          case rel => exact ⟨k + 1, nx, op, turn, cs, ws, F, A, c, es, by omega, by go_num, rfl, rfl, Hes.out, (HB2.out.drewN _).next⟩
          case measure => simp [intOf]; omega
        obtain ⟨m, cs', rfl, ha1, hb1, hE, hN, _, hm⟩ := HB2.out.bar hb
        obtain rfl := ha1
        obtain rfl := hb1
        have hE2 : E = nx := by rw [HEN.out.1, Hes.out]; exact hE
        have hN2 : N = m := by rw [HEN.out.2, Hes.out]; exact hN
        subst hE2 hN2
        have Hb := Lib.hid hb
        have HM := Lib.hid hm
        have hm1 : (N : Int) ≤ es.length := by have := HLN.out; omega
        have hm2 : (es.length : Int) ≤ c := by have := HB2.out.inn.le; rw [← Hes.out] at this; omega
        have hm3 : (0 : Int) ≤ N := by omega
        have hm4 : (N : Int) ≤ c := by omega
        clear hb hm hE hN
        go_wp2_with (first
            | (go_at_call 24; (with_reducible refine HO.out.mono ?_); rintro e w' ⟨rfl, m2, rfl⟩))
        refine ((HB2.out.drewN m2).bar_es Hes.out HM.out Hb.out).mono ?_
        rintro e w4 ⟨A4, F4, rfl, hB4, hr1, hr2, k4⟩
        have p2 : w4.cell? ⟨wr.heap.size, 2, none⟩ = some (.int .i64 nx) := k4.cell (fun hF => by have := HB.out.log.fp_lt hF; omega) q2
        have p3 : w4.cell? ⟨wr.heap.size, 3, none⟩ = some (.int .i64 N) := k4.cell (fun hF => by have := HB.out.log.fp_lt hF; omega) q3
        have SE := Lib.hid (same_yes (cA := N) (cB := c) (n := N) hr1 hr2 (by rw [List.length_take]; omega) (by omega))
        have HB4 := Lib.hid hB4
        clear hB4 hr1 hr2 k4 q0 q2 q3
        go_wp2_with (first
            | (go_at_call 14; (with_reducible refine (num_any _ _).mono ?_); rintro e w' ⟨rfl, rfl⟩)
            | (go_at_call 25; (with_reducible refine SE.out.mono ?_); rintro e w5 ⟨rfl, k5⟩))
        all_goals
          go_meet
          exact ⟨nx + 1, op, turn, cs', ws.drop N, F4, _, _, es.drop N, by go_num, by first | (rw [List.length_drop]; done) | (rw [if_pos (by omega), List.length_drop, show c - N = 0 from by omega]; done) | (rw [if_neg (by omega), List.length_drop]; done), by rw [Hes.out, List.map_drop], HB4.out.move (Chg.of_below _ k5)⟩
      · -- Barrier, kind 10
        have hk3 : kd = 10 := by simpa using (show (kd == 10) = true by assumption)
        subst hk3
        have hO := HB2.out.oldest Hes.out (by omega)
        have f2 := hb2.frozen 2
        have f3 := hb2.frozen 3
        obtain ⟨E, N, hEN⟩ : ∃ (E : Int) (N : Nat), E = oldE es ∧ N = oldN es := ⟨_, _, rfl, rfl⟩
        rw [← hEN.1, ← hEN.2] at hO
        have HO := Lib.hid hO
        have HEN := Lib.hid hEN
        clear hO hEN
        by_cases hb : barOk ⟨limit, width, (nx : Int) + cs.length, op, turn, ws⟩ E N
        case neg =>
          have Hb := Lib.hid hb
          clear hb
          go_wp2_with (first
            | (go_at_call 24; (with_reducible refine HO.out.mono ?_); rintro e w' ⟨rfl, m2, rfl⟩))
          obtain ⟨W, hW⟩ : ∃ W, W = ((w2.drewN m2).setCell ⟨wr.heap.size, 2, none⟩ (.int .i64 E)).setCell ⟨wr.heap.size, 3, none⟩ (.int .i64 N) := ⟨_, rfl⟩
          rw [← hW]
          have hBW := HB2.out.setO (g := wr.heap.size) m2 hW HB.out.bs (fun i hF => by have := HB.out.log.fp_lt hF; omega) (fun i hF => by have := HB.out.inn.fp_lt hF; omega)
          have HBW := Lib.hid hBW
          clear hBW hW
          go_wp2_with (first
            | (go_at_call 18; (with_reducible refine (barrier_no' _ _ HBW.out.log Hb.out).mono ?_); rintro e w' ⟨rfl, m3, rfl⟩)
            | (go_at_call 14; (with_reducible refine (num_any _ _).mono ?_); rintro e w' ⟨rfl, rfl⟩))
          go_roundw
          case rel => exact ⟨k + 1, nx, op, turn, cs, ws, F, A, c, es, by omega, by go_num, rfl, rfl, Hes.out, (HBW.out.drewN m3).next⟩
          case measure => simp [intOf]; omega
        obtain ⟨m, cs', rfl, ha1, hb1, hE, hN, _, hm⟩ := HB2.out.bar hb
        have hN2 : N = m := by omega
        subst ha1 hN2
        have Hb := Lib.hid hb
        have HM := Lib.hid hm
        have hm1 : (N : Int) ≤ es.length := by have := HLN.out; omega
        have hm2 : (es.length : Int) ≤ c := by have := HB2.out.inn.le; rw [← Hes.out] at this; omega
        have hm3 : (0 : Int) ≤ N := by omega
        have hm4 : (N : Int) ≤ c := by omega
        clear hb hm hE hN
        go_wp2_with (first
            | (go_at_call 24; (with_reducible refine HO.out.mono ?_); rintro e w' ⟨rfl, m2, rfl⟩))
        obtain ⟨W, hW⟩ : ∃ W, W = ((w2.drewN m2).setCell ⟨wr.heap.size, 2, none⟩ (.int .i64 nx)).setCell ⟨wr.heap.size, 3, none⟩ (.int .i64 N) := ⟨_, rfl⟩
        rw [← hW]
        have hBW := HB2.out.setO (g := wr.heap.size) m2 hW HB.out.bs (fun i hF => by have := HB.out.log.fp_lt hF; omega) (fun i hF => by have := HB.out.inn.fp_lt hF; omega)
        have hbW : Blk W wr.heap.size 29 #[.int .i64 10, .int .i64 of_, .int .i64 nx, .int .i64 N] := by rw [hW]; exact ((hb2.drewN m2).set_ 2 _).set_ 3 _
        have u2 := hbW.cell 2
        have u3 := hbW.cell 3
        have HBW := Lib.hid hBW
        clear hBW hW hbW
        refine (HBW.out.bar_es Hes.out HM.out Hb.out).mono ?_
        rintro e w4 ⟨A4, F4, rfl, hB4, hr1, hr2, k4⟩
        have p2 : w4.cell? ⟨wr.heap.size, 2, none⟩ = some (.int .i64 nx) := k4.cell (fun hF => by have := HB.out.log.fp_lt hF; omega) u2
        have p3 : w4.cell? ⟨wr.heap.size, 3, none⟩ = some (.int .i64 N) := k4.cell (fun hF => by have := HB.out.log.fp_lt hF; omega) u3
        have SE := Lib.hid (same_yes (cA := N) (cB := c) (n := N) hr1 hr2 (by rw [List.length_take]; omega) (by omega))
        have HB4 := Lib.hid hB4
        clear hB4 hr1 hr2 k4 q0 q2 q3
        go_wp2_with (first
            | (go_at_call 14; (with_reducible refine (num_any _ _).mono ?_); rintro e w' ⟨rfl, rfl⟩)
            | (go_at_call 25; (with_reducible refine SE.out.mono ?_); rintro e w5 ⟨rfl, k5⟩))
        all_goals
          go_meet
          exact ⟨nx + 1, op, turn, cs', ws.drop N, F4, _, _, es.drop N, by go_num, by first | (rw [List.length_drop]; done) | (rw [if_pos (by omega), List.length_drop, show c - N = 0 from by omega]; done) | (rw [if_neg (by omega), List.length_drop]; done), by rw [Hes.out, List.map_drop], HB4.out.move (Chg.of_below _ k5)⟩
      · -- Fail
        refine (HB2.out.fail_es Hes.out (by omega) (by omega)).mono ?_
        rintro e w3 ⟨A3, F3, rfl, hB3, hr1, hr2⟩
        have HB3 := Lib.hid hB3
        have SE := Lib.hid (same_yes (cA := es.length) (cB := c) hr1 hr2 rfl (by omega))
        clear hr1 hr2 hB3
        go_wp2_with (first
          | (go_at_call 25; (with_reducible refine SE.out.mono ?_); rintro e w5 ⟨rfl, k5⟩))
        go_meet
        exact ⟨1, 0, turn, [], [], F3, none, 0, [], rfl, rfl, rfl, HB3.out.move (Chg.of_below _ k5)⟩
      · go_meet
        exact ⟨nx, op, turn, cs, ws, F, A, c, es, rfl, rfl, Hes.out, HB2.out.next⟩
    case rest =>
      obtain ⟨nx', op', turn', cs', ws', F', A', c', es', rfl, rfl, hes, hB⟩ := hcut
      have HO := Lib.hid (hB.size_es hes)
      have Hes' := Lib.hid hes
      clear hes
      have HB := Lib.hid hB
      clear hB HB2
      go_wp2_with (first
            | (go_at_call 26; (with_reducible refine HO.out.mono ?_); rintro e w' ⟨rfl, rfl⟩))
      go_roundw
      case rel => exact ⟨k + 1, nx', op', turn', cs', ws', F', A', c', es', by omega, by go_num, rfl, rfl, Hes'.out, HB.out⟩
      case measure => simp [intOf]; omega
theorem order_law (limit width : Int) (A0 : Option Addr) (c0 : Nat) (l : List (Int × Int × Int × Int)) (w : World) (_ : (Lit.int .i64 limit).wf = true) (_ : (Lit.int .i64 width).wf = true) (hl : l.length ≤ 140737488351232) (hs : RdS encO4 4 w A0 l) (hwf : ∀ x ∈ l, (Lit.int .i64 x.2.2.1).wf = true) :
    Calls Try.prog 6 #[.int .i64 limit, .int .i64 width, .slice A0 l.length c0] w fun e w' => e = .returned (.bool true) ∧ Below w.heap.size w w' := by
  by_cases h : goodB limit width
  · exact order_yes h hl hs hwf
  · exact order_no h
end
end Go.Proofs.Ytagkhhoimgighaa
