/- TlogSettled: the walk. -/
import Derived.Test.YtagkhhoimgighaaSetBk
import Derived.Deep.DeepCutAuto
import Derived.Deep.CutBlock
namespace Go.Proofs.Ytagkhhoimgighaa
open Go.RowKit

section
variable {base G : Nat} {w0 wr w' : World} {limit width : Int} {k lf sh op turn : Nat} {ws : List Wr} {F : Nat → Nat → Prop} {A : Option Addr} {c : Nat} {sz : List Nat}
theorem SBk.epochs (h : SBk base G w0 wr limit width k lf sh op turn ws F A c sz) (hk : k ≤ 140737488351232) :
    Calls Try.prog 17 #[.pointer (some ⟨G, 0, none⟩)] wr fun e w' => e = .returned (.int .i64 ((sh : Int) - lf)) ∧ ∃ n, w' = wr.drewN n := by
  have hs := h.s1
  have hin : ∀ x ∈ ws, 1 ≤ x.ep ∧ x.ep ≤ (sh : Int) + 1 := fun x hx => by
    have hm : x.ep ∈ ws.map (·.ep) := List.mem_map_of_mem hx
    rw [h.lay] at hm
    rcases List.mem_append.1 hm with hm | hm
    · have h1 := layers_ge hm
      refine ⟨by omega, ?_⟩
      have hl : ∀ (cs : List Nat) (e : Int), x.ep ∈ layers e cs → x.ep < e + cs.length := by
        intro cs
        induction cs with
        | nil => intro e h; cases h
        | cons c cs ih =>
          intro e h
          rw [layers] at h
          rcases List.mem_append.1 h with h | h
          · rw [List.eq_of_mem_replicate h]; simp only [List.length_cons]; omega
          · have := ih _ h; simp only [List.length_cons]; omega
      have := hl _ _ hm
      rw [List.length_drop, h.hlen] at this
      have := h.le
      omega
    · rw [List.eq_of_mem_replicate hm]; omega
  have hE := epochs_any h.log (fun x hx => by have := hin x hx; dsimp only; omega)
  rcases h.first with ⟨h1, h2, h3⟩ | ⟨h1, h2, x, xs, h3, h4⟩ | ⟨h1, x, xs, h3, h4⟩
  · subst h3
    rw [show (sh : Int) - lf = 0 from by omega]
    exact hE
  · subst h3
    rw [show (sh : Int) - lf = (sh : Int) + 1 - x.ep from by omega]
    exact hE
  · subst h3
    rw [show (sh : Int) - lf = (sh : Int) + 1 - x.ep from by omega]
    exact hE
theorem SBk.settled (h : SBk base G w0 wr limit width k lf sh op turn ws F A c sz) (e : Int) (r : Bool) (hr : (lf = sh → op = 0 → r = true) ∧ (lf = sh → 0 < op → r = decide ((sh : Int) + 1 > e)) ∧ (lf < sh → r = decide ((lf : Int) + 1 > e))) :
    Calls Try.prog 20 #[.pointer (some ⟨G, 0, none⟩), .int .i64 e] wr fun en w' => en = .returned (.bool r) ∧ wr = w' := by
  have hS := settled_any e h.log
  rcases h.first with ⟨h1, h2, h3⟩ | ⟨h1, h2, x, xs, h3, h4⟩ | ⟨h1, x, xs, h3, h4⟩
  · subst h3; rw [hr.1 h1 h2]; exact hS
  · subst h3; rw [hr.2.1 h1 h2, ← h4]; exact hS
  · subst h3; rw [hr.2.2 h1, ← h4]; exact hS
end
theorem addR_zero {s : LogS} {id blk : Int} (h : addR s id blk = 0) : ¬ (s.limit ≤ s.ws.length ∨ s.width ≤ s.filled) := by
  unfold addR at h
  split at h
  · omega
  split at h
  · omega
  split at h
  · omega
  split at h
  · omega
  assumption
theorem intTy : SlTy Try.prog 44 3 1 8 := SlTy.mk' (z := .int .i64 0) Try.underlying44 (by kernel_rfl) (by rfl)
section
variable {limit width : Int} {A0 : Option Addr} {c0 : Nat} {l : List (Int × Int × Int × Int)} {w : World}
set_option maxRecDepth 20000 in
theorem settled_no (h : ¬ goodB limit width) : Calls Try.prog 4 #[.int .i64 limit, .int .i64 width, .slice A0 l.length c0] w fun e w' => e = .returned (.bool true) ∧ Below w.heap.size w w' := by
  have H := Lib.hid (good_no limit width w h)
  clear h
  go_enter Try.func4, Try.ntmps4
  go_wp2_with (go_at_call 10; refine H.out.mono ?_; rintro e w' ⟨rfl, rfl⟩)
  go_ret
  exact ⟨rfl, Below.refl _ _⟩
set_option maxRecDepth 20000 in
set_option maxHeartbeats 4000000 in
theorem settled_yes (hg : goodB limit width) (hl : l.length ≤ 1048576) (hs : RdS encO4 4 w A0 l) (hwf : ∀ x ∈ l, (Lit.int .i64 x.2.2.1).wf = true) :
    Calls Try.prog 4 #[.int .i64 limit, .int .i64 width, .slice A0 l.length c0] w fun e w' => e = .returned (.bool true) ∧ Below w.heap.size w w' := by
  have Hg := Lib.hid hg
  have H1 := Lib.hid (good_yes limit width w hg)
  have H2 := Lib.hid (made_any limit width w hg)
  have Hwf := Lib.hid hwf
  obtain ⟨g1, g2, g3, g4⟩ := hg
  clear hwf
  go_enter Try.func4, Try.ntmps4
  go_wp2_with (first
    | (go_at_call 10; refine H1.out.mono ?_; rintro e w' ⟨rfl, rfl⟩)
    | (go_at_call 11; refine H2.out.mono ?_; rintro e1 w1 ⟨G, F0, rfl, L0, b0, f0⟩))
  have kA := Chg.alloc (fun k _ => w1.heap.size ≤ k) w1 (.cells (encN 0).toArray 3)
  have B0 : SBk w.heap.size G w (w1.alloc (.cells (encN 0).toArray 3)) limit width 0 0 0 0 0 [] F0 (some ⟨w1.heap.size, 0, none⟩) 1 [0] :=
    ⟨b0.trans (kA.below b0.size fun j i hj hle => by have := b0.size; omega), Nat.le_trans b0.size kA.size, L0.chg kA fun j i hj hle => by have := L0.fp_lt hj; omega, GSl.new1 encN 1 w1 3 0 rfl, f0, (fun j i ⟨o, ho, _⟩ => by cases ho; exact ⟨b0.size, fun hf => by have := L0.fp_lt hf; omega⟩), rfl, Nat.le_refl _, rfl, (fun n hn => by cases hn), by omega, by simp; omega, by omega, by omega⟩
  have HB0 := Lib.hid B0
  clear L0 b0 f0 B0 H1 H2 kA
  go_loopw [9, 10, 11, 12, 13] (fun t9 t10 t11 t12 t13 wr => ∃ (k lf sh op turn : Nat) (ws : List Wr) (F : Nat → Nat → Prop) (A : Option Addr) (c : Nat) (sz : List Nat), k ≤ l.length ∧ t13 = .int .i64 k ∧ t12 = .int .i64 op ∧ t11 = .slice A sz.length c ∧ t10 = .int .i64 sh ∧ t9 = .int .i64 lf ∧ SBk w.heap.size G w wr limit width k lf sh op turn ws F A c sz) (fun _ _ _ _ t13 _ => l.length - (intOf t13).toNat)
  case atStart => exact ⟨0, 0, 0, 0, 0, [], F0, _, 1, [0], by omega, rfl, rfl, rfl, rfl, rfl, HB0.out⟩
  case round =>
    obtain ⟨k, lf, sh, op, turn, ws, F, A, c, sz, hk, rfl, rfl, rfl, rfl, rfl, hB⟩ := hrel
    clear HB0
    by_cases hkl : k < l.length
    case neg =>
      obtain rfl : k = l.length := by omega
      have HB := Lib.hid hB
      clear hB
      go_wp2
      go_ret
      exact ⟨rfl, HB.out.bel⟩
    obtain ⟨sb, so, ⟨kd, of_, a, b⟩, rfl, hsb, hx, hc⟩ := hs.at_ hkl
    have c0 : wr.cell? ⟨sb, so + k * 4, none⟩ = some (.int .i64 kd) := (hB.bel.cell (p := ⟨sb, so + k * 4, none⟩) hsb).trans (hc 0 _ rfl)
    have c1 : wr.cell? ⟨sb, so + k * 4 + 1, none⟩ = some (.int .i64 of_) := (hB.bel.cell (p := ⟨sb, so + k * 4 + 1, none⟩) hsb).trans (hc 1 _ rfl)
    have c2 : wr.cell? ⟨sb, so + k * 4 + 2, none⟩ = some (.int .i64 a) := (hB.bel.cell (p := ⟨sb, so + k * 4 + 2, none⟩) hsb).trans (hc 2 _ rfl)
    have c3 : wr.cell? ⟨sb, so + k * 4 + 3, none⟩ = some (.int .i64 b) := (hB.bel.cell (p := ⟨sb, so + k * 4 + 3, none⟩) hsb).trans (hc 3 _ rfl)
    have ha : (Lit.int .i64 a).wf = true := Hwf.out _ (List.mem_of_getElem? hx)
    have Ha := Lib.hid ha
    have HB := Lib.hid hB
    have he : Blk (wr.alloc (.cells #[.int .i64 0, .int .i64 0, .int .i64 0, .int .i64 0] 29)) wr.heap.size 29 #[.int .i64 0, .int .i64 0, .int .i64 0, .int .i64 0] := Blk.new wr _ _
    clear hx hc ha hB
    go_upto_block 2 with (first
          | ((with_reducible refine wpList_store_blk rfl 29 (.tmp 14) (.tmp 45) rfl wr.heap.size 29 #[.int .i64 0, .int .i64 0, .int .i64 0, .int .i64 0] #[.int .i64 kd, .int .i64 of_, .int .i64 a, .int .i64 b] ?hb rfl rfl (opSz _ _ _ _) (size4 _ _ _ _ _ _ _ _) (one4 rfl rfl rfl rfl) ?_); (case hb => exact he); intro w2 hb2 hg2 hs2; have q0 := hb2.cell 0; have q2 := hb2.cell 2; have q3 := hb2.cell 3; have HB2 := Lib.hid (HB.out.move ((Chg.alloc (fun k _ => wr.heap.size ≤ k) wr _).trans (Chg.of_row (F := fun k _ => wr.heap.size ≤ k) hg2 he hb2 rfl fun _ => Nat.le_refl _) fun _ _ _ h => h)); clear c0 c1 c2 c3 he))
    go_cut [9, 10, 11, 12] (fun t9 t10 t11 t12 wx => ∃ (lf' sh' op' turn' : Nat) (ws' : List Wr) (F' : Nat → Nat → Prop) (A' : Option Addr) (c' : Nat) (sz' : List Nat), t12 = .int .i64 op' ∧ t11 = .slice A' sz'.length c' ∧ t10 = .int .i64 sh' ∧ t9 = .int .i64 lf' ∧ SBk w.heap.size G w wx limit width (k + 1) lf' sh' op' turn' ws' F' A' c' sz')
    case first =>
      have hf1 := HB2.out.f1
      have hl1 := HB2.out.l1
      have ht1 := HB2.out.t1
      have hs1 := HB2.out.s1
      have hle := HB2.out.le
      have HLN := Lib.hid HB2.out.hlen
      have hq : (sh : Int) < sz.length := by have := HLN.out; omega
      have hcell : ∃ (g o n : Nat), A = some ⟨g, o, none⟩ ∧ (lf < sh → w2.cell? ⟨g, o + (lf + 1), none⟩ = some (.int .i64 n)) ∧ (lf < sh → sz[lf + 1]? = some n ∧ barOk ⟨limit, width, (sh : Int) + 1, op, turn, ws⟩ ((lf : Int) + 1) n) := by
        have := HLN.out
        obtain ⟨g, o, hA, _, _⟩ := HB2.out.szs.cell (k := 0) (x := sz[0]) (List.getElem?_eq_getElem (by omega))
        by_cases hlt : lf < sh
        · obtain ⟨n, hn, hb⟩ := HB2.out.bar hlt
          obtain ⟨g', o', hA', _, hcl⟩ := HB2.out.szs.cell hn
          exact ⟨g', o', n, hA', fun _ => by simpa using (hcl 0 _ rfl).1, fun _ => ⟨hn, hb⟩⟩
        · exact ⟨g, o, 0, hA, fun h => absurd h hlt, fun h => absurd h hlt⟩
      obtain ⟨g, o, n, hA, hcell, hbar⟩ := hcell
      subst hA
      have Hbar := Lib.hid hbar
      clear hbar
      go_wp2_with fail
      · -- Add
        by_cases hR : addR ⟨limit, width, (sh : Int) + 1, op, turn, ws⟩ a b = 0
        case neg =>
          obtain ⟨r, hr⟩ : ∃ r, addR ⟨limit, width, (sh : Int) + 1, op, turn, ws⟩ a b = r := ⟨_, rfl⟩
          rw [hr] at hR
          have hC := Lib.hid (add_no' HB2.out.log Ha.out hr hR)
          have hr0 : (r == 0) = false := by rw [beq_eq_false_iff_ne]; exact hR
          clear hr hR
          refine hC.out.mono ?_
          rintro e w3 ⟨rfl, m3, rfl⟩
          clear hC
          go_wp2_with (first
            | (go_at_call 14; (with_reducible refine (num_any _ _).mono ?_); rintro e w' ⟨rfl, rfl⟩))
          go_meet
          exact ⟨lf, sh, op, turn, ws, F, _, c, sz, rfl, rfl, rfl, rfl, (HB2.out.drewN m3).next⟩
        have hlt : (ws.length : Int) < limit ∧ (op : Int) < width := by
          have := addR_zero hR
          dsimp only at this
          omega
        have HLT := Lib.hid hlt
        have hC := Lib.hid (add_yes' HB2.out.log Ha.out hR (by omega) g2 g4 (by omega))
        clear hlt hR
        refine hC.out.mono ?_
        rintro e w3 ⟨rfl, g', F', L3, k3, f3⟩
        obtain ⟨ws', hB3⟩ := HB2.out.added L3 k3 f3 HLT.out.1 HLT.out.2
        have HB3 := Lib.hid hB3
        clear hC L3 k3 f3 hB3
        go_wp2_with (first
          | (go_at_call 14; (with_reducible refine (num_any _ _).mono ?_); rintro e w' ⟨rfl, rfl⟩))
        go_meet
        exact ⟨lf, sh, op + 1, turn + 1, ws', F', _, c, sz, by go_num, rfl, rfl, rfl, HB3.out⟩
      · -- Close
        have hC := close_any HB2.out.log (by show _ ∧ _; dsimp only; omega)
        have HC := Lib.hid hC
        clear hC
        rcases Nat.eq_zero_or_pos op with h0 | h0
        · subst h0
          refine HC.out.mono ?_
          rintro e w3 ⟨rfl, L3, k3⟩
          have HB3 := Lib.hid (HB2.out.closed0 L3 k3)
          clear L3 k3
          go_wp2
          go_meet
          exact ⟨lf, sh, 0, turn, ws, F, _, c, sz, rfl, rfl, rfl, rfl, HB3.out⟩
        · have h1 : decide ((op : Int) ≠ 0) = true := decide_eq_true (by omega)
          have H1 := Lib.hid h1
          clear h1
          refine HC.out.mono ?_
          rintro e w3 ⟨rfl, L3, k3⟩
          rw [H1.out]
          have gin : GSl encN 1 3 (w3.alloc (.cells #[.int .i64 op] 3)) (some ⟨g, o, none⟩) c sz := (HB2.out.turned k3).2.2.chg (Chg.alloc (fun k _ => w3.heap.size ≤ k) w3 _) encN_len fun j i hj hle => by have := (HB2.out.turned k3).2.2.fp_lt hj; omega
          have gnew : RdS encN 1 (w3.alloc (.cells #[.int .i64 op] 3)) (some ⟨w3.heap.size, 0, none⟩) [op] := RdS.new1 encN 1 w3 3 op
          have hl63 : sz.length + [op].length ≤ maxLen := by have := HLN.out; unfold maxLen; simp only [List.length_singleton]; omega
          have hlb : (sz.length + [op].length) * 8 ≤ 140737488355328 := by have := HLN.out; simp only [List.length_singleton]; omega
          have HL3 := Lib.hid L3
          clear L3
          go_wp2_with (first
            | (at_builtin; (with_reducible refine wpList_appendG intTy (by decide) encN_len encN_one rfl (.tmp 91) (.tmp 93) rfl (some ⟨g, o, none⟩) c sz rfl gin (some ⟨w3.heap.size, 0, none⟩) 1 [op] rfl gnew hl63 hlb ?_); intro A' c' w4 h4 k4 q4))
          go_meet
          exact ⟨lf, sh + 1, 0, turn, ws, F, A', c', sz ++ [op], rfl, by rw [List.length_append]; rfl, by go_num, rfl, HB2.out.closed h0 HL3.out k3 (Chg.alloc (fun k _ => w3.heap.size ≤ k) w3 _) k4 h4 q4⟩
      · -- Next
        have hlt : lf < sh := by assumption
        obtain ⟨hn, hb⟩ := Hbar.out hlt
        have hC := Lib.hid (barrier_yes' ((lf : Int) + 1) n HB2.out.log hb)
        have HN := Lib.hid hn
        clear hb hn
        refine hC.out.mono ?_
        rintro e w3 ⟨A3, F3, rfl, L3, k3, f3, _⟩
        have HB3 := Lib.hid (HB2.out.left hlt HN.out L3 k3 f3)
        clear L3 k3 f3 hC
        go_wp2_with (first
          | (go_at_call 14; (with_reducible refine (num_any _ _).mono ?_); rintro e w' ⟨rfl, rfl⟩))
        go_meet
        exact ⟨lf + 1, sh, op, turn, ws.drop n, F3, _, c, sz, rfl, rfl, rfl, by go_num, HB3.out⟩
      · go_meet
        exact ⟨lf, sh, op, turn, ws, F, _, c, sz, rfl, rfl, rfl, rfl, HB2.out.next⟩
      · -- Fail
        refine (fail_any HB2.out.log).mono ?_
        rintro e w3 ⟨A3, F3, rfl, L3, k3, f3, _⟩
        have HL3 := Lib.hid L3
        clear L3
        go_wp2
        go_meet
        exact ⟨0, 0, 0, turn, [], F3, _, 1, [0], rfl, rfl, rfl, rfl, HB2.out.failed HL3.out k3 f3 (by omega) (by omega) rfl⟩
      · go_meet
        exact ⟨lf, sh, op, turn, ws, F, _, c, sz, rfl, rfl, rfl, rfl, HB2.out.next⟩
    case rest =>
      obtain ⟨lf', sh', op', turn', ws', F', A', c', sz', rfl, rfl, rfl, rfl, hB⟩ := hcut
      have hle := hB.le
      have hs1 := hB.s1
      have HE := Lib.hid (fun W (h : SBk w.heap.size G w W limit width (k + 1) lf' sh' op' turn' ws' F' A' c' sz') => h.epochs (by omega))
      have HO := Lib.hid (fun W (h : SBk w.heap.size G w W limit width (k + 1) lf' sh' op' turn' ws' F' A' c' sz') => open_any h.log)
      have HB := Lib.hid hB
      clear hB HB2
      rcases Nat.lt_or_ge lf' sh' with hlt | hge
      · have q1 : ((lf' : Int) == sh') = false := by rw [beq_eq_false_iff_ne]; omega
        go_wp2_with (first
            | (go_at_call 17; (with_reducible refine (HE.out _ HB.out).mono ?_); rintro e w' ⟨rfl, m3, rfl⟩)
            | (go_at_call 16; (with_reducible refine (HO.out _ (HB.out.drewN _)).mono ?_); rintro e w' ⟨rfl, rfl⟩)
            | (go_at_call 20; (with_reducible refine ((HB.out.drewN _).settled ((sh' : Int) + 1) false ?hs).mono ?_); (case hs => simp; try omega); rintro e w' ⟨rfl, rfl⟩)
            | (go_at_call 20; (with_reducible refine ((HB.out.drewN _).settled ((lf' : Int)) true ?hs).mono ?_); (case hs => simp; try omega); rintro e w' ⟨rfl, rfl⟩)
            | (go_at_call 20; (with_reducible refine ((HB.out.drewN _).settled ((lf' : Int) + 1) false ?hs).mono ?_); (case hs => simp; try omega); rintro e w' ⟨rfl, rfl⟩))
        go_roundw
        case rel => exact ⟨k + 1, lf', sh', op', turn', ws', F', A', c', sz', by omega, by go_num, rfl, rfl, rfl, rfl, HB.out.drewN _⟩
        case measure => simp [intOf]; omega
      · obtain rfl : lf' = sh' := by omega
        rcases Nat.eq_zero_or_pos op' with h0 | h0
        · subst h0
          go_wp2_with (first
            | (go_at_call 17; (with_reducible refine (HE.out _ HB.out).mono ?_); rintro e w' ⟨rfl, m3, rfl⟩)
            | (go_at_call 16; (with_reducible refine (HO.out _ (HB.out.drewN _)).mono ?_); rintro e w' ⟨rfl, rfl⟩)
            | (go_at_call 20; (with_reducible refine ((HB.out.drewN _).settled ((lf' : Int) + 1) true ?hs).mono ?_); (case hs => simp; try omega); rintro e w' ⟨rfl, rfl⟩)
            | (go_at_call 20; (with_reducible refine ((HB.out.drewN _).settled ((lf' : Int)) true ?hs).mono ?_); (case hs => simp; try omega); rintro e w' ⟨rfl, rfl⟩)
            | (go_at_call 20; (with_reducible refine ((HB.out.drewN _).settled (1099511627776) true ?hs).mono ?_); (case hs => simp; try omega); rintro e w' ⟨rfl, rfl⟩))
          go_roundw
          case rel => exact ⟨k + 1, lf', lf', 0, turn', ws', F', A', c', sz', by omega, by go_num, rfl, rfl, rfl, rfl, HB.out.drewN _⟩
          case measure => simp [intOf]; omega
        · have q1 : ((op' : Int) == 0) = false := by rw [beq_eq_false_iff_ne]; omega
          go_wp2_with (first
            | (go_at_call 17; (with_reducible refine (HE.out _ HB.out).mono ?_); rintro e w' ⟨rfl, m3, rfl⟩)
            | (go_at_call 16; (with_reducible refine (HO.out _ (HB.out.drewN _)).mono ?_); rintro e w' ⟨rfl, rfl⟩)
            | (go_at_call 20; (with_reducible refine ((HB.out.drewN _).settled ((lf' : Int) + 1) false ?hs).mono ?_); (case hs => simp; try omega); rintro e w' ⟨rfl, rfl⟩)
            | (go_at_call 20; (with_reducible refine ((HB.out.drewN _).settled ((lf' : Int)) true ?hs).mono ?_); (case hs => simp; try omega); rintro e w' ⟨rfl, rfl⟩)
            | (go_at_call 20; (with_reducible refine ((HB.out.drewN _).settled (1099511627776) false ?hs).mono ?_); (case hs => simp; try omega); rintro e w' ⟨rfl, rfl⟩))
          go_roundw
          case rel => exact ⟨k + 1, lf', lf', op', turn', ws', F', A', c', sz', by omega, by go_num, rfl, rfl, rfl, rfl, HB.out.drewN _⟩
          case measure => simp [intOf]; omega
theorem settled_law (limit width : Int) (A0 : Option Addr) (c0 : Nat) (l : List (Int × Int × Int × Int)) (w : World) (_ : (Lit.int .i64 limit).wf = true) (_ : (Lit.int .i64 width).wf = true) (hl : l.length ≤ 1048576) (hs : RdS encO4 4 w A0 l) (hwf : ∀ x ∈ l, (Lit.int .i64 x.2.2.1).wf = true) :
    Calls Try.prog 4 #[.int .i64 limit, .int .i64 width, .slice A0 l.length c0] w fun e w' => e = .returned (.bool true) ∧ Below w.heap.size w w' := by
  by_cases h : goodB limit width
  · exact settled_yes h hl hs hwf
  · exact settled_no h
end
end Go.Proofs.Ytagkhhoimgighaa
