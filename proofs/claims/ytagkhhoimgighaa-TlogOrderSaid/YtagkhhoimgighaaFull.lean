/- TlogFull: the walk. -/
import Derived.Test.YtagkhhoimgighaaFullBk
namespace Go.Proofs.Ytagkhhoimgighaa
open Go.RowKit

theorem good_yes (limit width : Int) (w : World) (h : goodB limit width) : Calls Try.prog 10 #[.int .i64 limit, .int .i64 width] w fun e w' => e = .returned (.bool true) ∧ w = w' :=
  (good_any limit width w).mono fun _ _ ⟨he, hw⟩ => ⟨he.elim (fun h2 => h2.2) (fun h2 => absurd h h2.1), hw⟩
theorem good_no (limit width : Int) (w : World) (h : ¬ goodB limit width) : Calls Try.prog 10 #[.int .i64 limit, .int .i64 width] w fun e w' => e = .returned (.bool false) ∧ w = w' :=
  (good_any limit width w).mono fun _ _ ⟨he, hw⟩ => ⟨he.elim (fun h2 => absurd h2.1 h) (fun h2 => h2.2), hw⟩
theorem beqd (a b : Int) : (a == b) = decide (a = b) := by rw [Bool.eq_iff_iff, decide_eq_true_iff, beq_iff_eq]
/-- Add, by cases of its answer -/
theorem add_no' {w : World} {G : Nat} {s : LogS} {F : Nat → Nat → Prop} {id blk r : Int} (h : LogAt w G s F) (hw : (Lit.int .i64 id).wf = true) (hr : addR s id blk = r) (h0 : r ≠ 0) :
    Calls Try.prog 12 #[.pointer (some ⟨G, 0, none⟩), .int .i64 id, .int .i64 blk] w fun e w' => e = .returned (.tuple #[.int .i64 0, .bool false, .int .i64 r]) ∧ ∃ n, w' = w.drewN n := by
  subst hr
  exact add_no id blk h hw h0
theorem add_yes' {w : World} {G : Nat} {limit width opn filled : Int} {turn : Nat} {ws : List Wr} {F : Nat → Nat → Prop} {id blk : Int} (h : LogAt w G ⟨limit, width, opn, filled, turn, ws⟩ F) (hw : (Lit.int .i64 id).wf = true) (hr : addR ⟨limit, width, opn, filled, turn, ws⟩ id blk = 0) (ht : turn < 9223372036854775807) (hl : limit ≤ 1024) (hwd : width ≤ 64) (hfl : 0 ≤ filled) :
    Calls Try.prog 12 #[.pointer (some ⟨G, 0, none⟩), .int .i64 id, .int .i64 blk] w fun e w' => e = .returned (.tuple #[.int .i64 opn, .bool (filled + 1 == width), .int .i64 0]) ∧ ∃ g F', LogAt w' G (addS ⟨limit, width, opn, filled, turn, ws⟩ id blk g) F' ∧ Chg F w w' ∧ ∀ k i, F' k i → F k i ∨ w.heap.size ≤ k :=
  (add_yes id blk h hw hr ht hl hwd hfl).mono fun _ _ ⟨he, h2⟩ => ⟨by rw [he, beqd], h2⟩
theorem barrier_no' {w : World} {G : Nat} {s : LogS} {F : Nat → Nat → Prop} (ep cnt : Int) (h : LogAt w G s F) (hb : ¬ barOk s ep cnt) :
    Calls Try.prog 18 #[.pointer (some ⟨G, 0, none⟩), .int .i64 ep, .int .i64 cnt] w fun e w' => e = .returned (.tuple #[.slice none 0 0, .int .i64 101]) ∧ ∃ m, w' = w.drewN m := by
  obtain ⟨A, c, b, n, h, _⟩ := h
  exact barrier_no ep cnt h hb
theorem barrier_yes' {w : World} {G : Nat} {s : LogS} {F : Nat → Nat → Prop} (ep : Int) (m : Nat) (h : LogAt w G s F) (hb : barOk s ep m) :
    Calls Try.prog 18 #[.pointer (some ⟨G, 0, none⟩), .int .i64 ep, .int .i64 m] w fun e w' => ∃ A F', e = .returned (.tuple #[.slice A m m, .int .i64 0]) ∧
      LogAt w' G { s with ws := s.ws.drop m } F' ∧ Chg F w w' ∧ (∀ k i, F' k i → F k i) ∧ Handed w' F F' A m (s.ws.take m) := by
  have hm : lead s.ws ep = m := by obtain ⟨_, _, _, _, _, e⟩ := hb; omega
  rw [← hm] at hb ⊢
  exact barrier_any ep _ h hb
theorem bar_le {s : LogS} {ep : Int} {m : Nat} (hb : barOk s ep m) : m ≤ s.ws.length := by
  obtain ⟨_, _, _, _, _, e⟩ := hb
  have := lead_le s.ws ep
  omega
def epsV (opn : Int) : List Wr → Int
  | [] => 0
  | x :: _ => opn - x.ep
theorem Bk.epochs {base G : Nat} {w0 wr : World} {limit width : Int} {k : Nat} {opn filled : Int} {turn : Nat} {ws : List Wr} {F : Nat → Nat → Prop} {A : Option Addr} {c : Nat} {es : List Ent3} (h : Bk base G w0 wr limit width k opn filled turn ws F A c es) (hk : k ≤ 140737488351232) :
    ∃ ep : Int, 0 ≤ ep ∧ ep ≤ opn ∧ Calls Try.prog 17 #[.pointer (some ⟨G, 0, none⟩)] wr fun e w' => e = .returned (.int .i64 ep) ∧ ∃ n, w' = wr.drewN n := by
  have ho1 := h.o1
  have ho2 := h.o2
  have hE := epochs_any h.log (fun x hx => by have := h.ep x hx; dsimp only; omega)
  have hp := h.ep
  refine ⟨epsV opn ws, ?_, ?_, ?_⟩
  · cases ws with
    | nil => exact Int.le_refl _
    | cons x xs => have := hp x (List.mem_cons_self ..); simp only [epsV]; omega
  · cases ws with
    | nil => simp only [epsV]; omega
    | cons x xs => have := hp x (List.mem_cons_self ..); simp only [epsV]; omega
  · cases ws with
    | nil => exact hE
    | cons x xs => exact hE
section
variable {limit width : Int} {A0 : Option Addr} {c0 : Nat} {l : List (Int × Int × Int × Int)} {w : World}
theorem full_no (h : ¬ goodB limit width) : Calls Try.prog 3 #[.int .i64 limit, .int .i64 width, .slice A0 l.length c0] w fun e w' => e = .returned (.bool true) ∧ Below w.heap.size w w' := by
  have H := Lib.hid (good_no limit width w h)
  clear h
  go_enter Try.func3, Try.ntmps3
  go_wp2_with (go_at_call 10; refine H.out.mono ?_; rintro e w' ⟨rfl, rfl⟩)
  go_ret
  exact ⟨rfl, Below.refl _ _⟩
set_option maxRecDepth 20000 in
set_option maxHeartbeats 4000000 in
theorem full_yes (hg : goodB limit width) (hl : l.length ≤ 140737488351232) (hs : RdS encO4 4 w A0 l) (hwf : ∀ x ∈ l, (Lit.int .i64 x.2.2.1).wf = true) :
    Calls Try.prog 3 #[.int .i64 limit, .int .i64 width, .slice A0 l.length c0] w fun e w' => e = .returned (.bool true) ∧ Below w.heap.size w w' := by
  have Hg := Lib.hid hg
  have H1 := Lib.hid (good_yes limit width w hg)
  have H2 := Lib.hid (made_any limit width w hg)
  have Hwf := Lib.hid hwf
  obtain ⟨g1, g2, g3, g4⟩ := hg
  clear hwf
  go_enter Try.func3, Try.ntmps3
  go_wp2_with (first
    | (go_at_call 10; refine H1.out.mono ?_; rintro e w' ⟨rfl, rfl⟩)
    | (go_at_call 11; refine H2.out.mono ?_; rintro e1 w1 ⟨G, F0, rfl, L0, b0, f0⟩))
  have B0 : Bk w.heap.size G w w1 limit width 0 1 0 0 [] F0 none 0 [] := ⟨b0, b0.size, L0, GSl.nil_, rfl, f0, (fun j i ⟨o, ho, _⟩ => by cases ho), by omega, by omega, by simp; omega, by omega, by omega, by omega, (fun x hx => by cases hx)⟩
  have HB0 := Lib.hid B0
  clear L0 b0 f0 B0 H1 H2
  go_loopw [9, 10, 11] (fun t9 t10 t11 wr => ∃ (k : Nat) (opn filled : Int) (turn : Nat) (ws : List Wr) (F : Nat → Nat → Prop) (A : Option Addr) (c : Nat) (es : List Ent3), k ≤ l.length ∧ t11 = .int .i64 k ∧ t10 = .int .i64 filled ∧ t9 = .slice A es.length c ∧ Bk w.heap.size G w wr limit width k opn filled turn ws F A c es) (fun _ _ t11 _ => l.length - (intOf t11).toNat)
  case atStart => exact ⟨0, 1, 0, 0, [], F0, none, 0, [], by omega, rfl, rfl, rfl, HB0.out⟩
  case round =>
    obtain ⟨k, opn, filled, turn, ws, F, A, c, es, hk, rfl, rfl, rfl, hB⟩ := hrel
    clear HB0
    by_cases hkl : k < l.length
    case neg =>
      obtain rfl : k = l.length := by omega
      have HB := Lib.hid hB
      clear hB
      go_wp2
      go_ret
      exact ⟨rfl, HB.out.bel⟩
    obtain ⟨sb, so, ⟨kd, of_, a, b⟩, rfl, hsb, hx, hc⟩ := hs.at_ hkl
    have c0 : wr.cell? ⟨sb, so + k * 4, none⟩ = some (.int .i64 kd) := (hB.bel.cell (p := ⟨sb, so + k * 4, none⟩) hsb).trans (hc 0 _ rfl)
    have c1 : wr.cell? ⟨sb, so + k * 4 + 1, none⟩ = some (.int .i64 of_) := (hB.bel.cell (p := ⟨sb, so + k * 4 + 1, none⟩) hsb).trans (hc 1 _ rfl)
    have c2 : wr.cell? ⟨sb, so + k * 4 + 2, none⟩ = some (.int .i64 a) := (hB.bel.cell (p := ⟨sb, so + k * 4 + 2, none⟩) hsb).trans (hc 2 _ rfl)
    have c3 : wr.cell? ⟨sb, so + k * 4 + 3, none⟩ = some (.int .i64 b) := (hB.bel.cell (p := ⟨sb, so + k * 4 + 3, none⟩) hsb).trans (hc 3 _ rfl)
    have ha : (Lit.int .i64 a).wf = true := Hwf.out _ (List.mem_of_getElem? hx)
    have Ha := Lib.hid ha
    have HB := Lib.hid hB
    have he : Blk (wr.alloc (.cells #[.int .i64 0, .int .i64 0, .int .i64 0, .int .i64 0] 29)) wr.heap.size 29 #[.int .i64 0, .int .i64 0, .int .i64 0, .int .i64 0] := Blk.new wr _ _
    clear hx hc ha hB
    go_wp2_with (first
          | ((with_reducible refine wpList_store_blk rfl 29 (.tmp 12) (.tmp 45) rfl wr.heap.size 29 #[.int .i64 0, .int .i64 0, .int .i64 0, .int .i64 0] #[.int .i64 kd, .int .i64 of_, .int .i64 a, .int .i64 b] ?hb rfl rfl (opSz _ _ _ _) (size4 _ _ _ _ _ _ _ _) (one4 rfl rfl rfl rfl) ?_); (case hb => exact he); intro w2 hb2 hg2 hs2; have q0 := hb2.cell 0; have q2 := hb2.cell 2; have q3 := hb2.cell 3; have HB2 := Lib.hid (HB.out.move ((Chg.alloc (fun k _ => wr.heap.size ≤ k) wr _).trans (Chg.of_row (F := fun k _ => wr.heap.size ≤ k) hg2 he hb2 rfl fun _ => Nat.le_refl _) fun _ _ _ h => h)); clear c0 c1 c2 c3 he))
    · -- Add
      have hB := HB2.out
      have hlen := hB.len
      have hf0 := hB.f0
      have hf1 := hB.f1
      have hl1 := hB.l1
      have ht1 := hB.t1
      have hfnd := hasB_find (id := a) hB.ids
      have hn1 : es.length ≤ 9223372036854775807 := by omega
      have HN := Lib.hid hn1
      have ht2 : turn < 9223372036854775807 := by omega
      by_cases hR : addR ⟨limit, width, opn, filled, turn, ws⟩ a b = 0
      case neg =>
        have hR2 : (a < 1 ∧ addR ⟨limit, width, opn, filled, turn, ws⟩ a b = 1) ∨ (1 ≤ a ∧ b < 0 ∧ addR ⟨limit, width, opn, filled, turn, ws⟩ a b = 2) ∨ (1 ≤ a ∧ 0 ≤ b ∧ 4096 ≤ b ∧ addR ⟨limit, width, opn, filled, turn, ws⟩ a b = 2) ∨
            (1 ≤ a ∧ 0 ≤ b ∧ b ≤ 4095 ∧ hasB es a = true ∧ addR ⟨limit, width, opn, filled, turn, ws⟩ a b = 102) ∨ (1 ≤ a ∧ 0 ≤ b ∧ b ≤ 4095 ∧ hasB es a = false ∧ ((es.length : Int) == limit) = true ∧ addR ⟨limit, width, opn, filled, turn, ws⟩ a b = 4) ∨
            (1 ≤ a ∧ 0 ≤ b ∧ b ≤ 4095 ∧ hasB es a = false ∧ ((es.length : Int) == limit) = false ∧ (filled == width) = true ∧ addR ⟨limit, width, opn, filled, turn, ws⟩ a b = 4) := by
          unfold addR at hR ⊢
          rw [hfnd]
          generalize (findW ws a).isSome = q at *
          rw [hlen]
          cases q <;> simp only [Bool.false_eq_true, if_false, if_true] at hR ⊢ <;> split <;> (try split) <;> (try split) <;> simp_all <;> omega
        clear hR
        clear hfnd hlen hB
        rcases hR2 with ⟨r1, hR⟩ | ⟨r1, r2, hR⟩ | ⟨r1, r2, r3, hR⟩ | ⟨r1, r2, r3, r4, hR⟩ | ⟨r1, r2, r3, r4, r5, hR⟩ | ⟨r1, r2, r3, r4, r5, r6, hR⟩
        all_goals
          refine (add_no' HB2.out.log Ha.out hR (by omega)).mono ?_
          rintro e w3 ⟨rfl, m3, rfl⟩
          have HB3 := Lib.hid (HB2.out.drewN m3)
          have HR := Lib.hid hR
          clear hR
          go_wp2_with (first
            | (go_at_call 13; (with_reducible refine (has_any a ?hc HN.out).mono ?_); (case hc => exact HB3.out.inn.rds); rintro e w' ⟨rfl, rfl⟩)
            | (go_at_call 14; (with_reducible refine (num_any _ _).mono ?_); rintro e w' ⟨rfl, rfl⟩))
          go_roundw
          case rel => exact ⟨k + 1, opn, filled, turn, ws, F, A, c, es, by omega, by go_num, rfl, rfl, HB3.out.next⟩
          case measure => simp [intOf]; omega
      · have hR3 : 1 ≤ a ∧ 0 ≤ b ∧ b ≤ 4095 ∧ hasB es a = false ∧ ((es.length : Int) == limit) = false ∧ (filled == width) = false := by
          unfold addR at hR
          rw [hfnd]
          generalize (findW ws a).isSome = q at *
          rw [hlen]
          cases q <;> simp only [Bool.false_eq_true, if_false, if_true] at hR ⊢ <;> split at hR <;> (try split at hR) <;> (try split at hR) <;> simp_all <;> omega
        obtain ⟨r1, r2, r3, r4, r5, r6⟩ := hR3
        have hlt : (ws.length : Int) < limit ∧ filled < width := by
          rw [beq_eq_false_iff_ne] at r5 r6
          omega
        have HLT := Lib.hid hlt
        have hl63 : es.length + [(a, (0 : Int), (0 : Int))].length ≤ maxLen := by unfold maxLen; simp only [List.length_singleton]; omega
        have hlb : (es.length + [(a, (0 : Int), (0 : Int))].length) * 24 ≤ 140737488355328 := by simp only [List.length_singleton]; omega
        clear hfnd hlen hB hlt
        refine (add_yes' HB2.out.log Ha.out hR ht2 g2 g4 hf0).mono ?_
        rintro e w3 ⟨rfl, g, F', L3, k3, f3⟩
        have HR := Lib.hid hR
        have rds3 : RdS encE 3 w3 A es := (HB2.out.turned k3).2.2.rds
        have gin : GSl encE 3 36 (w3.alloc (.cells #[.int .i64 a, .int .i64 0, .int .i64 0] 36)) A c es := (HB2.out.turned k3).2.2.chg (Chg.alloc (fun k _ => w3.heap.size ≤ k) w3 _) encE_len fun j i hj hle => by have := (HB2.out.turned k3).2.2.fp_lt hj; omega
        have gnew : RdS encE 3 (w3.alloc (.cells #[.int .i64 a, .int .i64 0, .int .i64 0] 36)) (some ⟨w3.heap.size, 0, none⟩) [(a, 0, 0)] := RdS.new1 encE 3 w3 36 (a, 0, 0)
        have p2 : w3.cell? ⟨wr.heap.size, 2, none⟩ = some (.int .i64 a) := k3.cell (fun hF => by have := HB.out.log.fp_lt hF; omega) q2
        have p3 : w3.cell? ⟨wr.heap.size, 3, none⟩ = some (.int .i64 b) := k3.cell (fun hF => by have := HB.out.log.fp_lt hF; omega) q3
        have HL3 := Lib.hid L3
        clear hR L3 q2 q3 q0
        go_wp2_with (first
            | (go_at_call 13; (with_reducible refine (has_any a ?hc HN.out).mono ?_); (case hc => exact rds3); rintro e w' ⟨rfl, rfl⟩)
            | (go_at_call 14; (with_reducible refine (num_any _ _).mono ?_); rintro e w' ⟨rfl, rfl⟩)
            | (at_builtin; (with_reducible refine wpList_appendG entTy (by decide) encE_len encE_one rfl (.tmp 96) (.tmp 100) rfl A c es rfl gin (some ⟨w3.heap.size, 0, none⟩) 1 [(a, 0, 0)] rfl gnew hl63 hlb ?_); intro A' c' w4 h4 k4 q4))
        obtain ⟨ws', hB4⟩ := Bk.added HB2.out HL3.out k3 f3 (Chg.alloc (fun k _ => w3.heap.size ≤ k) w3 _) k4 h4 q4 HLT.out.1 HLT.out.2
        go_roundw
        case rel => exact ⟨k + 1, opn, filled + 1, turn + 1, ws', F', A', c', es ++ [(a, 0, 0)], by omega, by go_num, rfl, by rw [List.length_append]; rfl, hB4⟩
        case measure => simp [intOf]; omega
    · -- Close
      have hf0 := HB2.out.f0
      have ho1 := HB2.out.o1
      have ho2 := HB2.out.o2
      have hC := close_any HB2.out.log (by show _ ∧ _; dsimp only; omega)
      have HC := Lib.hid hC
      clear hC
      rcases Int.lt_or_eq_of_le hf0 with h0 | h0
      · have h1 : decide (filled ≠ 0) = true := decide_eq_true (by omega)
        have H1 := Lib.hid h1
        clear h1
        refine HC.out.mono ?_
        rintro e w3 ⟨rfl, L3, k3⟩
        rw [H1.out]
        obtain ⟨opn', hB3⟩ := HB2.out.closed L3 k3
        have HB3 := Lib.hid hB3
        clear hB3 L3 k3
        go_wp2
        go_roundw
        case rel => exact ⟨k + 1, opn', 0, turn, ws, F, A, c, es, by omega, by go_num, rfl, rfl, HB3.out⟩
        case measure => simp [intOf]; omega
      · subst h0
        refine HC.out.mono ?_
        rintro e w3 ⟨rfl, L3, k3⟩
        obtain ⟨opn', hB3⟩ := HB2.out.closed L3 k3
        have HB3 := Lib.hid hB3
        clear hB3 L3 k3
        go_wp2
        go_roundw
        case rel => exact ⟨k + 1, opn', 0, turn, ws, F, A, c, es, by omega, by go_num, rfl, rfl, HB3.out⟩
        case measure => simp [intOf]; omega
    · -- Next
      have ho1 := HB2.out.o1
      have ho2 := HB2.out.o2
      obtain ⟨ep, e1, e2, hE⟩ := HB2.out.epochs (by omega)
      have HE := Lib.hid hE
      have HO := Lib.hid (open_any HB2.out.log)
      clear hE
      go_wp2_with (first
        | (go_at_call 16; (with_reducible refine HO.out.mono ?_); rintro e w' ⟨rfl, rfl⟩)
        | (go_at_call 17; (with_reducible refine HE.out.mono ?_); rintro e w' ⟨rfl, m3, rfl⟩))
      have HB3 := Lib.hid (HB2.out.drewN m3)
      have hf0 := HB2.out.f0
      clear HE HO
      obtain ⟨AT, hAT⟩ : ∃ AT : Int, AT = opn - ep := ⟨_, rfl⟩
      rw [← hAT]
      clear hAT
      go_loopw [9, 21] (fun t9 t21 wi => ∃ (m : Nat) (ws' : List Wr) (F' : Nat → Nat → Prop) (A' : Option Addr) (c' : Nat) (es' : List Ent3), 1 ≤ m ∧ m ≤ 65 ∧ t21 = .int .i64 m ∧ t9 = .slice A' es'.length c' ∧ Bk w.heap.size G w wi limit width k opn filled turn ws' F' A' c' es') (fun _ t21 _ => 65 - (intOf t21).toNat)
      case atStart => exact ⟨1, ws, F, A, c, es, by omega, by omega, rfl, rfl, HB3.out⟩
      case round =>
        obtain ⟨m, ws', F', A', c', es', hm1, hm2, rfl, rfl, hB⟩ := hrel
        have HB4 := Lib.hid hB
        have hlen := hB.len
        have hle := hB.inn.le
        clear hB HB3
        by_cases hm : m ≤ 64
        case neg =>
          obtain rfl : m = 65 := by omega
          clear hlen
          go_wp2
          go_roundw
          case rel => exact ⟨k + 1, opn, filled, turn, ws', F', A', c', es', by omega, by go_num, rfl, rfl, HB4.out.next⟩
          case measure => simp [intOf]; omega
        by_cases hb : barOk ⟨limit, width, opn, filled, turn, ws'⟩ AT m
        case neg =>
          have Hb := Lib.hid (barrier_no' AT m HB4.out.log hb)
          clear hb hlen
          go_wp2_with (first
            | (go_at_call 18; (with_reducible refine Hb.out.mono ?_); rintro e w' ⟨rfl, m4, rfl⟩)
            | (go_at_call 14; (with_reducible refine (num_any _ _).mono ?_); rintro e w' ⟨rfl, rfl⟩))
          go_roundw
          case rel => exact ⟨m + 1, ws', F', A', c', es', by omega, by omega, by go_num, rfl, HB4.out.drewN m4⟩
          case measure => simp [intOf]; omega
        have hbl := bar_le hb
        dsimp only at hbl
        have Hb := Lib.hid (barrier_yes' AT m HB4.out.log hb)
        have HBL := Lib.hid hbl
        have b1 : (m : Int) ≤ es'.length := by omega
        have b2 : (es'.length : Int) ≤ c' := by omega
        have b3 : (0 : Int) ≤ m := by omega
        have b4 : (m : Int) ≤ c' := by omega
        clear hb hlen hbl
        go_wp2_with (first
            | (go_at_call 18; (with_reducible refine Hb.out.mono ?_); rintro e w4 ⟨A4, F4, rfl, L4, k4, f4, _⟩)
            | (go_at_call 14; (with_reducible refine (num_any _ _).mono ?_); rintro e w' ⟨rfl, rfl⟩))
        go_roundw
        case rel => exact ⟨m + 1, ws'.drop m, F4, _, _, es'.drop m, by omega, by omega, by go_num, by rw [List.length_drop], HB4.out.left L4 k4 f4 HBL.out⟩
        case measure => simp [intOf]; omega
    · -- Fail
      refine (fail_any HB2.out.log).mono ?_
      rintro e w3 ⟨A3, F3, rfl, L3, k3, f3, _⟩
      have HB3 := Lib.hid (HB2.out.failed L3 k3 f3)
      clear L3 k3 f3
      go_wp2
      go_roundw
      case rel => exact ⟨k + 1, 1, 0, turn, [], F3, none, 0, [], by omega, by go_num, rfl, rfl, HB3.out⟩
      case measure => simp [intOf]; omega
    · go_roundw
      case rel => exact ⟨k + 1, opn, filled, turn, ws, F, A, c, es, by omega, by go_num, rfl, rfl, HB2.out.next⟩
      case measure => simp [intOf]; omega
theorem full_any (limit width : Int) (A0 : Option Addr) (c0 : Nat) (l : List (Int × Int × Int × Int)) (w : World) (_ : (Lit.int .i64 limit).wf = true) (_ : (Lit.int .i64 width).wf = true) (hl : l.length ≤ 140737488351232) (hs : RdS encO4 4 w A0 l) (hwf : ∀ x ∈ l, (Lit.int .i64 x.2.2.1).wf = true) :
    Calls Try.prog 3 #[.int .i64 limit, .int .i64 width, .slice A0 l.length c0] w fun e w' => e = .returned (.bool true) ∧ Below w.heap.size w w' := by
  by_cases h : goodB limit width
  · exact full_yes h hl hs hwf
  · exact full_no h
end
end Go.Proofs.Ytagkhhoimgighaa
