/- ActlogOldest: the walk. -/
import Derived.Test.YtiidheknlacioaaOldF
import Derived.Test.YtiidheknlacioaaLruVI
namespace Go.Proofs.Ytiidheknlacioaa
open Go.RowKit
set_option linter.unusedVariables false
set_option linter.unusedSimpArgs false
open KI in
structure OR (base G : Nat) (w0 wr : World) (N : Nat) (s : LruS) (bk : List U4) (F : Nat → Nat → Prop) (A : Option Addr) (c : Nat) : Prop where
  bel : Below base w0 wr
  bs : base ≤ wr.heap.size
  lru : LruAt wr G N s F
  row : GSl encU 4 31 wr A c bk
  fF : ∀ k i, F k i → base ≤ k
  fA : ∀ k i, slFp 4 A 0 c k i → base ≤ k ∧ ¬ F k i
section
open KI
variable {base G N N' : Nat} {w0 wr w1 w' : World} {s s' : LruS} {bk bk' : List U4} {F F' : Nat → Nat → Prop} {A A' : Option Addr} {c c' : Nat}
theorem OR.high (h : OR base G w0 wr N s bk F A c) (hc : Chg (fun k _ => wr.heap.size ≤ k) wr w') : OR base G w0 w' N s bk F A c :=
  ⟨h.bel.trans (hc.below h.bs fun j i hj hle => by have := h.bs; omega), Nat.le_trans h.bs hc.size, h.lru.chg hc fun j i hj hle => by have := h.lru.fp_lt hj; omega,
   h.row.chg hc encU_len fun j i hj hle => by have := slFp_lt h.row (slFp_len h.row hj); omega, h.fF, h.fA⟩
theorem OR.drewN (h : OR base G w0 wr N s bk F A c) (m : Nat) : OR base G w0 (wr.drewN m) N s bk F A c := h.high ((Chg.refl _ wr).drewN m)
theorem OR.below (h : OR base G w0 wr N s bk F A c) (hB : Below wr.heap.size wr w') : OR base G w0 w' N s bk F A c := h.high (Chg.of_below _ hB)
theorem OR.lruT (h : OR base G w0 wr N s bk F A c) (L : LruAt w1 G N' s' F') (hc : Chg F wr w1) (hF : ∀ k i, F' k i → F k i ∨ wr.heap.size ≤ k) : OR base G w0 w1 N' s' bk F' A c := by
  refine ⟨h.bel.trans (hc.below h.bs fun j i hj hf => by have := h.fF j i hf; omega), Nat.le_trans h.bs hc.size, L, h.row.chg hc encU_len fun j i hj hf => (h.fA j i (slFp_len h.row hj)).2 hf, fun k i hk => ?_, fun k i hk => ⟨(h.fA k i hk).1, fun hf => ?_⟩⟩
  · rcases hF k i hk with h1 | h1
    · exact h.fF k i h1
    · have := h.bs; omega
  · rcases hF k i hf with h1 | h1
    · exact (h.fA k i hk).2 h1
    · have := slFp_lt h.row hk; omega
theorem OR.rowT (h : OR base G w0 wr N s bk F A c) (hc : Chg (fun k i => slFp 4 A 0 c k i ∨ wr.heap.size ≤ k) wr w1) (g : GSl encU 4 31 w1 A' c' bk') (hA : ∀ k i, slFp 4 A' 0 c' k i → slFp 4 A 0 c k i ∨ wr.heap.size ≤ k) : OR base G w0 w1 N s bk' F A' c' := by
  refine ⟨h.bel.trans (hc.below h.bs fun j i hj hf => hf.elim (fun e => by have := (h.fA j i e).1; omega) fun e => by have := h.bs; omega), Nat.le_trans h.bs hc.size, h.lru.chg hc fun j i hj hf => hf.elim (fun e => (h.fA j i e).2 hj) fun e => by have := h.lru.fp_lt hj; omega, g, h.fF, fun k i hk => ?_⟩
  rcases hA k i hk with h1 | h1
  · exact h.fA k i h1
  · exact ⟨by have := h.bs; omega, fun hf => by have := h.lru.fp_lt hf; omega⟩
theorem OR.keys (h : OR base G w0 wr N s bk F A c) {L : Nat} (hL : (keysS s).length = L) : Calls Try.prog 21 #[.pointer (some ⟨G, 0, none⟩)] wr fun e w' => (∃ A1 c1, e = .returned (.slice A1 L c1)) ∧ OR base G w0 w' N s bk F A c := by
  refine (keys_any h.lru).mono ?_
  rintro e w' ⟨A1, c1, rfl, _, hB, _⟩
  exact ⟨⟨A1, c1, by rw [hL]⟩, h.below hB⟩
theorem OR.find (h : OR base G w0 wr N s bk F A c) (key : Int) {n : Nat} (hn : bk.length = n) (hl : n ≤ 16) : Calls Try.prog 16 #[.slice A n c, .int .i64 key] wr fun e w' => e = .returned (.int .i64 (findI bk key)) ∧ wr = w' := find_any key h.row.rds hn (by omega)
theorem OR.put (h : OR base G w0 wr N s bk F A c) (key : Int) (hk : kOk key) (hN : (N : Int) ≤ 9223372036854775807) (hr : refsLe s N) : Calls Try.prog 17 #[.pointer (some ⟨G, 0, none⟩), .int .i64 key] wr fun e w' => e = .returned (.int .i64 (putR s key)) ∧ ∃ F', OR base G w0 w' N (putT s key) bk F' A c := by
  refine (put_any key h.lru hk hN hr).mono ?_
  rintro e w' ⟨rfl, F', L, hc, hF⟩
  exact ⟨rfl, F', h.lruT L hc hF⟩
theorem OR.get (h : OR base G w0 wr N s bk F A c) (key : Int) (hk : kOk key) (hN : N < 4611686018427387904) (hr : refsLe s N) {v : Value} (hv : getV s key = v) : Calls Try.prog 19 #[.pointer (some ⟨G, 0, none⟩), .int .i64 key] wr fun e w' => e = .returned v ∧ ∃ F', OR base G w0 w' (N + 1) (getT s key) bk F' A c := by
  refine (get_any key h.lru hk hN hr).mono ?_
  rintro e w' ⟨rfl, F', L, hc, hF⟩
  exact ⟨by rw [hv], F', h.lruT L hc hF⟩
/-- one cell of one line is written -/
theorem OR.cell (h : OR base G w0 wr N s bk F A c) {g o a j : Nat} {u y : U4} {v : Value} (hA : A = some ⟨g, o, none⟩) (hu : bk[a]? = some u) (hj : j < 4) (he : encU y = (encU u).set j v) : OR base G w0 (wr.setCell ⟨g, o + (a * 4 + j), none⟩ v) N s (bk.set a y) F A c := by
  subst hA
  have hle := h.row.le
  have ha := (List.getElem?_eq_some_iff.1 hu).1
  exact h.rowT (Chg.setCell _ wr (.inl ⟨o, rfl, by omega, by omega⟩) v) (h.row.setAt encU_len hu hj he) fun _ _ h => .inl h
/-- a line more -/
theorem OR.append (h : OR base G w0 wr N s bk F A c) {w4 : World} {A4 : Option Addr} {c4 : Nat} (k4 : Chg (slFp 4 A bk.length c) wr w4) (g4 : GSl encU 4 31 w4 A4 c4 bk') (q4 : (A4 = A ∧ c4 = c) ∨ ∃ g, A4 = some ⟨g, 0, none⟩ ∧ wr.heap.size ≤ g) : OR base G w0 w4 N s bk' F A4 c4 := by
  refine h.rowT (k4.mono fun k i _ hs => .inl (slFp_zero hs)) g4 fun k i hk => ?_
  rcases q4 with ⟨rfl, rfl⟩ | ⟨g', rfl, hg'⟩
  · exact .inl hk
  · obtain ⟨o, e, _⟩ := hk; cases e; exact .inr hg'
end
section
open KI
variable {A0 : Option Addr} {c0 : Nat} {l : List Int} {w : World}
set_option maxRecDepth 20000 in
theorem oldest_no (slots : Int) (h : slots < 1 ∨ 16 < slots) : Calls Try.prog 3 #[.int .i64 slots, .slice A0 l.length c0] w fun e w' => e = .returned (.bool true) ∧ Below w.heap.size w w' := by
  have H := Lib.hid (new_no slots h w)
  rcases h with h | h
  · go_enter Try.func3, Try.ntmps3
    go_wp2_with (first
      | (go_at_call 14; (with_reducible refine H.out.mono ?_); rintro e w' ⟨rfl, rfl⟩)
      | (go_at_call 15; (with_reducible refine (num_any _ _).mono ?_); rintro e w' ⟨rfl, rfl⟩))
    go_ret
    exact ⟨rfl, Below.refl _ _⟩
  · have h1 : ¬ slots < 1 := by omega
    go_enter Try.func3, Try.ntmps3
    go_wp2_with (first
      | (go_at_call 14; (with_reducible refine H.out.mono ?_); rintro e w' ⟨rfl, rfl⟩)
      | (go_at_call 15; (with_reducible refine (num_any _ _).mono ?_); rintro e w' ⟨rfl, rfl⟩))
    go_ret
    exact ⟨rfl, Below.refl _ _⟩
set_option maxRecDepth 20000 in
set_option maxHeartbeats 8000000 in
theorem oldest_yes (M : Nat) (h1 : 1 ≤ M) (h2 : M ≤ 16) (hl : l.length ≤ 140737488351232) (hs : Rd Go.Proofs.Ytiidheknlacioaa.encI w A0 l) (hwf : ∀ x ∈ l, (Lit.int .i64 x).wf = true) :
    Calls Try.prog 3 #[.int .i64 (M : Int), .slice A0 l.length c0] w fun e w' => e = .returned (.bool true) ∧ Below w.heap.size w w' := by
  have H := Lib.hid (new_yes M h1 h2 w)
  have a1 : ¬ (M : Int) < 1 := by omega
  have a2 : ¬ (16 : Int) < (M : Int) := by omega
  have Hs := Lib.hid hs
  have Hwf := Lib.hid hwf
  clear hs hwf
  go_enter Try.func3, Try.ntmps3
  go_wp2_with fail
  refine H.out.mono ?_
  rintro e w1 ⟨G, F0, rfl, L0, B0, f0⟩
  have R0 := Lib.hid (show OR w.heap.size G w w1 0 (newL M) [] F0 none 0 from ⟨B0, B0.size, L0, GSl.nil_, f0, fun k i ⟨_, e, _⟩ => by cases e⟩)
  clear H L0 B0 f0
  go_wp2_with (first
    | (go_at_call 15; (with_reducible refine (num_any _ _).mono ?_); rintro e w' ⟨rfl, rfl⟩))
  go_loopw [9, 10] (fun t9 t10 wr => ∃ (i : Nat) (s : LruS) (bk : List U4) (F : Nat → Nat → Prop) (A : Option Addr) (c : Nat), i ≤ l.length ∧ t10 = .int .i64 i ∧ t9 = .slice A bk.length c ∧ Hid (OR w.heap.size G w wr i s bk F A c) ∧ Hid (OSim s bk i) ∧ Hid (refsLe s i) ∧ Hid (s.ps.length = M)) (fun _ t10 _ => l.length - (intOf t10).toNat)
  case atStart => exact ⟨0, newL M, [], F0, none, 0, Nat.zero_le _, rfl, rfl, R0, Lib.hid (OSim.new_ M), Lib.hid (refsLe_new M), Lib.hid (by simp [newL])⟩
  case round =>
    obtain ⟨i, s, bk, F, A, c, hi, rfl, rfl, HR, HS, HL, HM⟩ := hrel
    clear R0
    by_cases hil : i < l.length
    case neg =>
      obtain rfl : i = l.length := by omega
      go_wp2
      go_ret
      exact ⟨rfl, HR.out.bel⟩
    obtain ⟨ad, x, hA0, hx, hc⟩ := Hs.out.at_ hil
    subst hA0
    have hsb : ad.block < w.heap.size := by have := World.block_lt_of_cell? w _ hc; rwa [blk_add] at this
    have x0 : wr.cell? (ad.add i) = some (.int .i64 x) := (HR.out.bel.cell (p := ad.add i) (by rw [blk_add]; exact hsb)).trans hc
    have hxw := Hwf.out _ (List.mem_of_getElem? hx)
    have hil' : (i : Int) < (l.length : Int) := by omega
    have hbl : bk.length ≤ 16 := by have h1 := HS.out.len; have h2 := List.length_filterMap_le id s.ps; have h3 := HM.out; omega
    clear hc hx
    obtain ⟨n, hn⟩ : ∃ n, n = bk.length := ⟨_, rfl⟩
    rw [← hn] at hbl ⊢
    have HN := Lib.hid hn.symm
    clear hn
    have hxb := wf64_ hxw
    by_cases hneg : x < 0
    · -- a reference comes back
      obtain ⟨key, hkey⟩ : ∃ key, key = -1 - x := ⟨_, rfl⟩
      have hwr : IntKind.i64.wrap (-1 - x) = key := by rw [hkey]; exact i64_in_ _ ⟨by omega, by omega⟩
      have hkw : KI.kOk key := wf64 (by omega)
      have HF := Lib.hid (HR.out.find key HN.out hbl)
      have HPR := Lib.hid (HS.out.putR (key := key))
      cases hf : findU bk key with
      | none =>
        have hfi : findI bk key = -1 := by unfold findI; rw [hf]
        rw [hfi] at HF
        have HP := Lib.hid (fun q => (HR.out.drewN q).put key hkw (by omega) HL.out)
        have hpr : putR s key = 42 := by rw [HPR.out, hf]
        rw [hpr] at HP
        have HT := Lib.hid (show putT s key = s by unfold putT; rw [HS.out.find_none hf])
        clear hkey hf hfi hpr
        go_wp2_with (first
          | (go_at_call 16; (with_reducible refine HF.out.mono ?_); rintro e w' ⟨rfl, rfl⟩))
        go_quiet (fail)
        go_wp2_with (first
          | (go_at_call 17; (with_reducible refine (HP.out _).mono ?_); rintro e w3 ⟨rfl, F3, R3⟩)
          | (go_at_call 15; (with_reducible refine (num_any _ _).mono ?_); rintro e w' ⟨rfl, rfl⟩))
        go_roundw
        case rel => exact ⟨i + 1, s, bk, F3, A, c, by omega, by go_num, by rw [HN.out], Lib.hid (by rw [HT.out] at R3; exact { R3 with lru := R3.lru.mono (Nat.le_succ _) }), Lib.hid HS.out.next, Lib.hid (refsLe_mono HL.out (by omega)), HM⟩
        case measure => simp [intOf]; omega
      | some a =>
        obtain ⟨u, hu, hk1, ha⟩ := findU_some hf
        have hfi : findI bk key = (a : Int) := by unfold findI; rw [hf]
        rw [hfi] at HF
        obtain ⟨g, o, hA, hgl, hcl⟩ := HR.out.row.cell hu
        subst hA
        have c1 : wr.cell? ⟨g, o + a * 4 + 1, none⟩ = some (.int .i64 u.2.1) := (hcl 1 _ rfl).1
        have c2 : wr.cell? ⟨g, o + a * 4 + 2, none⟩ = some (.int .i64 u.2.2.1) := (hcl 2 _ rfl).1
        have han : (a : Int) < (n : Int) := by have := HN.out; omega
        have hnn : n ≤ c := by have := HR.out.row.le; have := HN.out; omega
        have ha0 : (0 : Int) ≤ (a : Int) := by omega
        have hub := HS.out.bnd u (List.mem_of_getElem? hu)
        have HP := Lib.hid (fun q => (HR.out.drewN q).put key hkw (by omega) HL.out)
        have Hu := Lib.hid hu
        have Hf := Lib.hid hf
        by_cases hgt : u.2.2.1 < u.2.1
        · have hpr : putR s key = 0 := by rw [HPR.out, hf]; dsimp only; rw [hu]; dsimp only; rw [if_pos hgt]
          rw [hpr] at HP
          have hS' := Lib.hid (HS.out.back hf hu hgt)
          have hL' := Lib.hid (refsLe_mono (refsLe_put (by omega) HL.out key) (m := ((i + 1 : Nat) : Int)) (by omega))
          have hM' := Lib.hid ((putT_len s key).trans HM.out)
          have hw2 : IntKind.i64.wrap (u.2.2.1 + 1) = u.2.2.1 + 1 := i64_in_ _ ⟨by omega, by omega⟩
          have hlen' : (bk.set a (u.1, u.2.1, u.2.2.1 + 1, (i : Int))).length = n := by rw [List.length_set]; exact HN.out
          have HLn := Lib.hid hlen'
          clear hkey hf hfi hpr hu hub ha hcl hlen'
          go_upto_region 20 with (first
            | (go_at_call 16; (with_reducible refine HF.out.mono ?_); rintro e w' ⟨rfl, rfl⟩)
            | (go_quiet (fail))
            | (go_at_call 17; (with_reducible refine (HP.out _).mono ?_); rintro e w3 ⟨rfl, F3, R3⟩)
            | (go_at_call 15; (with_reducible refine (num_any _ _).mono ?_); rintro e w' ⟨rfl, rfl⟩))
          have R4 := R3.cell (y := (u.1, u.2.1, u.2.2.1 + 1, u.2.2.2)) (j := 2) (v := .int .i64 (u.2.2.1 + 1)) rfl Hu.out (by decide) rfl
          obtain ⟨_, _, e3, _, hcl3⟩ := R3.row.cell Hu.out
          cases e3
          have d2 : w3.cell? ⟨g, o + a * 4 + 2, none⟩ = some (.int .i64 u.2.2.1) := (hcl3 2 _ rfl).1
          have d2f : w3.frozen? ⟨g, o + a * 4 + 2, none⟩ = false := (hcl3 2 _ rfl).2
          obtain ⟨W4, hW4⟩ : ∃ W, w3.setCell ⟨g, o + a * 4 + 2, none⟩ (.int .i64 (u.2.2.1 + 1)) = W := ⟨_, rfl⟩
          rw [show o + (a * 4 + 2) = o + a * 4 + 2 by omega, hW4] at R4
          have hu4 : (bk.set a (u.1, u.2.1, u.2.2.1 + 1, u.2.2.2))[a]? = some (u.1, u.2.1, u.2.2.1 + 1, u.2.2.2) := getElem?_set_at _ (List.getElem?_eq_some_iff.1 Hu.out).1
          have R5 := R4.cell (y := (u.1, u.2.1, u.2.2.1 + 1, (i : Int))) (j := 3) (v := .int .i64 (i : Int)) rfl hu4 (by decide) rfl
          rw [List.set_set] at R5
          obtain ⟨_, _, e4, _, hcl4⟩ := R4.row.cell hu4
          cases e4
          have d3 : W4.cell? ⟨g, o + a * 4 + 3, none⟩ = some (.int .i64 u.2.2.2) := (hcl4 3 _ rfl).1
          have d3f : W4.frozen? ⟨g, o + a * 4 + 3, none⟩ = false := (hcl4 3 _ rfl).2
          obtain ⟨W5, hW5⟩ : ∃ W, W4.setCell ⟨g, o + a * 4 + 3, none⟩ (.int .i64 (i : Int)) = W := ⟨_, rfl⟩
          rw [show o + (a * 4 + 3) = o + a * 4 + 3 by omega, hW5] at R5
          have HR5 := Lib.hid (show OR w.heap.size G w W5 (i + 1) (putT s key) (bk.set a (u.1, u.2.1, u.2.2.1 + 1, (i : Int))) F3 (some ⟨g, o, none⟩) c from { R5 with lru := R5.lru.mono (Nat.le_succ _) })
          clear R3 R4 R5 hcl3 hcl4 hu4 HP HF
          go_wp2_with fail
          go_roundw
          case rel => exact ⟨i + 1, putT s key, bk.set a (u.1, u.2.1, u.2.2.1 + 1, (i : Int)), F3, _, c, by omega, by go_num, by rw [HLn.out], HR5, hS', hL', hM'⟩
          case measure => simp [intOf]; omega
        · have hpr : putR s key = 42 := by rw [HPR.out, hf]; dsimp only; rw [hu]; dsimp only; rw [if_neg hgt]
          rw [hpr] at HP
          have HT := Lib.hid (show putT s key = s by
            obtain ⟨j, hs, hj⟩ := HS.out.find_slot hf hu
            unfold putT; rw [hs]; dsimp only; rw [if_pos (by rw [plcAt_eq hj]; dsimp only; omega)])
          clear hkey hf hfi hpr hu hub ha hcl
          go_wp2_with (first
            | (go_at_call 16; (with_reducible refine HF.out.mono ?_); rintro e w' ⟨rfl, rfl⟩))
          go_quiet (fail)
          go_wp2_with (first
            | (go_at_call 17; (with_reducible refine (HP.out _).mono ?_); rintro e w3 ⟨rfl, F3, R3⟩)
            | (go_at_call 15; (with_reducible refine (num_any _ _).mono ?_); rintro e w' ⟨rfl, rfl⟩))
          go_roundw
          case rel => exact ⟨i + 1, s, bk, F3, _, c, by omega, by go_num, by rw [HN.out], Lib.hid (by rw [HT.out] at R3; exact { R3 with lru := R3.lru.mono (Nat.le_succ _) }), Lib.hid HS.out.next, Lib.hid (refsLe_mono HL.out (by omega)), HM⟩
          case measure => simp [intOf]; omega
    · -- a reference is taken
      have hkw : KI.kOk x := hxw
      have HF := Lib.hid (HR.out.find x HN.out hbl)
      have HO := Lib.hid (oldest_any (c := c) HR.out.row.rds HN.out (by omega))
      have hN2 : i < 4611686018427387904 := by omega
      have hL' := Lib.hid (show refsLe (getT s x) ((i + 1 : Nat) : Int) from refsLe_mono (refsLe_get (by omega) HL.out x) (by omega))
      have hM' := Lib.hid ((getT_len s x).trans HM.out)
      cases hf : findU bk x with
      | some a =>
        obtain ⟨u, hu, hk1, ha⟩ := findU_some hf
        have hfi : findI bk x = (a : Int) := by unfold findI; rw [hf]
        rw [hfi] at HF
        obtain ⟨⟨j, hO⟩, hSn⟩ := HS.out.hit hf hu
        have hV : KI.getV s x = .tuple #[.int .i64 (j : Int), .bool false, .int .i64 0, .bool false, .int .i64 0] := by unfold KI.getV; rw [hO]
        have HG := Lib.hid (fun q => (HR.out.drewN q).get x hkw hN2 HL.out hV)
        have han : (a : Int) < (n : Int) := by have := HN.out; omega
        have ha0 : (0 : Int) ≤ (a : Int) := by omega
        have hub := HS.out.bnd u (List.mem_of_getElem? hu)
        have Hu := Lib.hid hu
        have hlen' : (bk.set a (u.1, u.2.1 + 1, u.2.2.1, u.2.2.2)).length = n := by rw [List.length_set]; exact HN.out
        have HLn := Lib.hid hlen'
        have hS' := Lib.hid hSn
        have HKL := Lib.hid (hSn.keysLen.trans hlen')
        have hw2 : IntKind.i64.wrap (u.2.1 + 1) = u.2.1 + 1 := i64_in_ _ ⟨by omega, by omega⟩
        obtain ⟨g, o, hA, hgl, _⟩ := HR.out.row.cell hu
        subst hA
        have hnn : n ≤ c := by have := HR.out.row.le; have := HN.out; omega
        clear hf hfi hO hV hu hub ha hlen' hSn
        go_upto_region 30 with (first
          | (go_at_call 16; (with_reducible refine HF.out.mono ?_); rintro e w' ⟨rfl, rfl⟩)
          | (go_at_call 18; (with_reducible refine HO.out.mono ?_); rintro e w' ⟨rfl, m2, rfl⟩)
          | (go_at_call 19; (with_reducible refine (HG.out _).mono ?_); rintro e w3 ⟨rfl, F3, R3⟩)
          | (go_at_call 15; (with_reducible refine (num_any _ _).mono ?_); rintro e w' ⟨rfl, rfl⟩))
        have R4 := R3.cell (y := (u.1, u.2.1 + 1, u.2.2.1, u.2.2.2)) (j := 1) (v := .int .i64 (u.2.1 + 1)) rfl Hu.out (by decide) rfl
        obtain ⟨_, _, e3, _, hcl3⟩ := R3.row.cell Hu.out
        cases e3
        have d2 : w3.cell? ⟨g, o + a * 4 + 1, none⟩ = some (.int .i64 u.2.1) := (hcl3 1 _ rfl).1
        have d2f : w3.frozen? ⟨g, o + a * 4 + 1, none⟩ = false := (hcl3 1 _ rfl).2
        obtain ⟨W4, hW4⟩ : ∃ W, w3.setCell ⟨g, o + a * 4 + 1, none⟩ (.int .i64 (u.2.1 + 1)) = W := ⟨_, rfl⟩
        rw [show o + (a * 4 + 1) = o + a * 4 + 1 by omega, hW4] at R4
        have HKC := Lib.hid (R4.keys HKL.out)
        clear R3 R4 hcl3 HG HF HO
        go_wp2_with (first
          | (go_at_call 21; (with_reducible refine HKC.out.mono ?_); rintro e w5 ⟨⟨A5, c5, rfl⟩, R5⟩))
        go_roundw
        case rel => exact ⟨i + 1, getT s x, bk.set a (u.1, u.2.1 + 1, u.2.2.1, u.2.2.2), F3, _, c, by omega, by go_num, by rw [HLn.out], Lib.hid R5, hS', hL', hM'⟩
        case measure => simp [intOf]; omega
      | none =>
        have hfi : findI bk x = -1 := by unfold findI; rw [hf]
        rw [hfi] at HF
        by_cases hlt : bk.length < s.ps.length
        · obtain ⟨⟨j, hO⟩, hSn⟩ := HS.out.fresh hf hlt
          have hV : KI.getV s x = .tuple #[.int .i64 (j : Int), .bool true, .int .i64 0, .bool false, .int .i64 0] := by unfold KI.getV; rw [hO]
          have HG := Lib.hid (fun q => (HR.out.drewN q).get x hkw hN2 HL.out hV)
          have hnM : (n : Int) < (M : Int) := by have := HN.out; have := HM.out; omega
          have hlen' : (bk ++ [(x, 1, 0, 0)]).length = bk.length + 1 := by rw [List.length_append]; rfl
          have HLn := Lib.hid hlen'
          have hS' := Lib.hid hSn
          have HKL := Lib.hid (hSn.keysLen.trans hlen')
          clear hf hfi hO hV hlen' hSn hlt
          go_upto_region 34 with (first
            | (go_at_call 16; (with_reducible refine HF.out.mono ?_); rintro e w' ⟨rfl, rfl⟩)
            | (go_at_call 18; (with_reducible refine HO.out.mono ?_); rintro e w' ⟨rfl, m2, rfl⟩)
            | (go_at_call 19; (with_reducible refine (HG.out _).mono ?_); rintro e w3 ⟨rfl, F3, R3⟩)
            | (go_at_call 15; (with_reducible refine (num_any _ _).mono ?_); rintro e w' ⟨rfl, rfl⟩))
          have RA := Lib.hid (R3.high (Chg.alloc (fun k _ => w3.heap.size ≤ k) w3 (.cells #[.int .i64 x, .int .i64 1, .int .i64 0, .int .i64 0] 31)))
          have gin := RA.out.row
          have gnew : RdS encU 4 (w3.alloc (.cells #[.int .i64 x, .int .i64 1, .int .i64 0, .int .i64 0] 31)) (some ⟨w3.heap.size, 0, none⟩) [(x, 1, 0, 0)] := RdS.new1 encU 4 w3 31 (x, 1, 0, 0)
          clear R3 HG HF HO
          go_upto_region 39 with (first
            | (at_builtin; refine wpList_appendG uTy (by decide) encU_len encU_one rfl (.tmp 168) (.tmp 171) rfl A c bk (by rw [HN.out]; rfl) gin (some ⟨w3.heap.size, 0, none⟩) 1 [(x, 1, 0, 0)] rfl gnew (by rw [HN.out]; simp only [maxLen, List.length_singleton]; omega) (by rw [HN.out]; simp only [List.length_singleton]; omega) ?_; intro A4 c4 w4 g4 k4 q4))
          have R4 := RA.out.append k4 g4 q4
          have HKC := Lib.hid (R4.keys HKL.out)
          clear gin gnew g4 k4 q4 R4
          go_wp2_with (first
            | (go_at_call 21; (with_reducible refine HKC.out.mono ?_); rintro e w5 ⟨⟨A5, c5, rfl⟩, R5⟩))
          go_roundw
          case rel => exact ⟨i + 1, getT s x, bk ++ [(x, 1, 0, 0)], F3, A4, c4, by omega, by go_num, by rw [HLn.out], Lib.hid R5, hS', hL', hM'⟩
          case measure => simp [intOf]; omega
        · have hnM : ¬ (n : Int) < (M : Int) := by have := HN.out; have := HM.out; omega
          cases hb : bestU bk bk.length with
          | none =>
            obtain ⟨hO, hTe⟩ := HS.out.starve hf hlt hb
            have hV : KI.getV s x = .tuple #[.int .i64 0, .bool false, .int .i64 0, .bool false, .int .i64 41] := by unfold KI.getV; rw [hO]
            have HG := Lib.hid (fun q => (HR.out.drewN q).get x hkw hN2 HL.out hV)
            rw [hb] at HO
            have HT := Lib.hid hTe
            have HKL := Lib.hid (HS.out.keysLen.trans HN.out)
            clear hf hfi hO hV hb hlt hTe
            go_upto_region 39 with (first
              | (go_at_call 16; (with_reducible refine HF.out.mono ?_); rintro e w' ⟨rfl, rfl⟩)
              | (go_at_call 18; (with_reducible refine HO.out.mono ?_); rintro e w' ⟨rfl, m2, rfl⟩)
              | (go_at_call 19; (with_reducible refine (HG.out _).mono ?_); rintro e w3 ⟨rfl, F3, R3⟩)
              | (go_at_call 15; (with_reducible refine (num_any _ _).mono ?_); rintro e w' ⟨rfl, rfl⟩))
            rw [HT.out] at R3
            have HKC := Lib.hid (R3.keys HKL.out)
            clear R3 HG HF HO
            go_wp2_with (first
              | (go_at_call 21; (with_reducible refine HKC.out.mono ?_); rintro e w5 ⟨⟨A5, c5, rfl⟩, R5⟩))
            go_roundw
            case rel => exact ⟨i + 1, s, bk, F3, A, c, by omega, by go_num, by rw [HN.out], Lib.hid R5, Lib.hid HS.out.next, Lib.hid (refsLe_mono HL.out (by omega)), HM⟩
            case measure => simp [intOf]; omega
          | some b =>
            obtain ⟨u, hu, _, _⟩ := bestU_some hb
            have hou : oldU bk = u.1 := by unfold oldU; rw [hb]; dsimp only; rw [hu]; rfl
            rw [hb, hou] at HO
            obtain ⟨⟨j, hO⟩, hSn⟩ := HS.out.evict hf hlt hb hu
            have hV : KI.getV s x = .tuple #[.int .i64 (j : Int), .bool true, .int .i64 u.1, .bool true, .int .i64 0] := by unfold KI.getV; rw [hO]
            have HG := Lib.hid (fun q => (HR.out.drewN q).get x hkw hN2 HL.out hV)
            have hwl : (withoutU bk u.1).length ≤ 16 := Nat.le_trans (List.length_filter_le _ _) (by have := HN.out; omega)
            have hlen' : (withoutU bk u.1 ++ [(x, 1, 0, 0)]).length = (withoutU bk u.1).length + 1 := by rw [List.length_append]; rfl
            have HLn := Lib.hid hlen'
            have hS' := Lib.hid hSn
            have HKL := Lib.hid (hSn.keysLen.trans hlen')
            clear hf hfi hO hV hlen' hSn hlt hb hou hu
            go_upto_region 38 with (first
              | (go_at_call 16; (with_reducible refine HF.out.mono ?_); rintro e w' ⟨rfl, rfl⟩)
              | (go_at_call 18; (with_reducible refine HO.out.mono ?_); rintro e w' ⟨rfl, m2, rfl⟩)
              | (go_at_call 19; (with_reducible refine (HG.out _).mono ?_); rintro e w3 ⟨rfl, F3, R3⟩)
              | (go_at_call 15; (with_reducible refine (num_any _ _).mono ?_); rintro e w' ⟨rfl, rfl⟩))
            have HWo := Lib.hid (without_any (c := c) u.1 R3.row.rds HN.out (by omega))
            clear HG HF HO
            go_wp2_with fail
            refine HWo.out.mono ?_
            rintro e w4 ⟨A4, c4, rfl, g4, B4, f4⟩
            have R4 := Lib.hid (R3.rowT (Chg.of_below _ B4) g4 fun k i hk => .inr (f4 k i hk))
            clear g4 B4 f4 R3 HWo
            obtain ⟨bk4, hbk4⟩ : ∃ b, b = withoutU bk u.1 := ⟨_, rfl⟩
            rw [← hbk4] at R4 hwl HKL hS' HLn ⊢
            clear hbk4
            have RA := Lib.hid (R4.out.high (Chg.alloc (fun k _ => w4.heap.size ≤ k) w4 (.cells #[.int .i64 x, .int .i64 1, .int .i64 0, .int .i64 0] 31)))
            have gin := RA.out.row
            have gnew : RdS encU 4 (w4.alloc (.cells #[.int .i64 x, .int .i64 1, .int .i64 0, .int .i64 0] 31)) (some ⟨w4.heap.size, 0, none⟩) [(x, 1, 0, 0)] := RdS.new1 encU 4 w4 31 (x, 1, 0, 0)
            go_upto_region 39 with (first
              | (at_builtin; refine wpList_appendG uTy (by decide) encU_len encU_one rfl (.tmp 193) (.tmp 196) rfl A4 c4 bk4 rfl gin (some ⟨w4.heap.size, 0, none⟩) 1 [(x, 1, 0, 0)] rfl gnew (by simp only [maxLen, List.length_singleton]; omega) (by simp only [List.length_singleton]; omega) ?_; intro A6 c6 w6 g6 k6 q6))
            have R6 := RA.out.append k6 g6 q6
            have HKC := Lib.hid (R6.keys HKL.out)
            clear gin gnew g6 k6 q6 R6
            go_wp2_with (first
              | (go_at_call 21; (with_reducible refine HKC.out.mono ?_); rintro e w5 ⟨⟨A5, c5, rfl⟩, R5⟩))
            go_roundw
            case rel => exact ⟨i + 1, getT s x, bk4 ++ [(x, 1, 0, 0)], F3, A6, c6, by omega, by go_num, by rw [HLn.out], Lib.hid R5, hS', hL', hM'⟩
            case measure => simp [intOf]; omega
theorem oldest_law (slots : Int) (A0 : Option Addr) (c0 : Nat) (l : List Int) (w : World) (_ : (Lit.int .i64 slots).wf = true) (hl : l.length ≤ 140737488351232) (hs : Rd Go.Proofs.Ytiidheknlacioaa.encI w A0 l) (hwf : ∀ x ∈ l, (Lit.int .i64 x).wf = true) :
    Calls Try.prog 3 #[.int .i64 slots, .slice A0 l.length c0] w fun e w' => e = .returned (.bool true) ∧ Below w.heap.size w w' := by
  by_cases h : slots < 1 ∨ 16 < slots
  · exact oldest_no slots h
  · obtain ⟨M, rfl⟩ : ∃ M : Nat, slots = (M : Int) := ⟨slots.toNat, by omega⟩
    exact oldest_yes M (by omega) (by omega) hl hs hwf
end
end Go.Proofs.Ytiidheknlacioaa
