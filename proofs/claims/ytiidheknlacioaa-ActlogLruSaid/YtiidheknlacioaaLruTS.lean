/- The Lru of package actlog, keys texts: Get of a key that is not there, by contract. -/
import Derived.Test.YtiidheknlacioaaLruQS
namespace Go.Proofs.Ytiidheknlacioaa.KS
open Go.RowKit
set_option linter.unusedVariables false
set_option linter.unusedSimpArgs false
theorem plSz : (Try.prog.info? 195).map (·.size) = some 3 := by kernel_rfl
section
variable {w w' : World} {G N gp b n ci : Nat} {s : LruS} {F F' : Nat → Nat → Prop} {Ai : Option Addr}
set_option maxRecDepth 20000 in
set_option maxHeartbeats 4000000 in
theorem get_fresh (key : Int) (h : LruIn w G s gp b n Ai ci) (hk : kOk key) (hn : n ≤ N) (hN : N < 4611686018427387904) (hF : ∀ k i, F k i ↔ lruFp G gp b Ai ci k i) {at_ : Nat} (hs : slotS s key = none) (hf : freeS s = some at_) :
    Calls Try.prog 61 #[.pointer (some ⟨G, 0, none⟩), kV key] w (GetP w G N s F key) := by
  have hlook := h.look hk
  rw [hs] at hlook
  simp only [Option.getD_none, Option.isSome_none] at hlook
  obtain ⟨c0, c1, c2⟩ := h.cells
  obtain ⟨hp, hlt⟩ := freeS_some hf
  have hO : getO s key = .fresh at_ := by unfold getO; rw [hs]; dsimp only; rw [hf]
  have hV : getV s key = .tuple #[.int .i64 (at_ : Int), .bool true, kZV, .bool false, .int .i64 0] := by unfold getV; rw [hO]
  have hT : getT s key = freshT s key at_ := by unfold getT; rw [hO]
  have hfr : freeI s = (at_ : Int) := by unfold freeI; rw [hf]
  obtain ⟨w1, hw1, B1, S1⟩ : ∃ W, w.alloc (.cells #[.int .i64 0] 3) = W ∧ Below w.heap.size w W ∧ W.heap.size = w.heap.size + 1 := ⟨_, rfl, (Below.refl _ w).alloc (Nat.le_refl _) _, by simp⟩
  have k1 : Chg (fun k _ => w.heap.size ≤ k) w w1 := Chg.of_below _ B1
  have h1 : LruIn w1 G s gp b n Ai ci := h.chg k1 fun k i hk hle => by have := h.fp_lt hk; omega
  have FR := Lib.hid (free_any h1)
  rw [hfr] at FR
  have hlt' : (at_ : Int) < (s.ps.length : Int) := by omega
  have hge : ¬ (at_ : Int) < 0 := by omega
  have hok' := h.ok.fresh hs hf
  have hoks' : ∀ (i : Nat) (k r : Int), (freshT s key at_).ps[i]? = some (some (k, r)) → kOk k := oks_set h.oks hk
  have hlen' : 1 ≤ (freshT s key at_).ps.length ∧ (freshT s key at_).ps.length ≤ 16 := by have : (freshT s key at_).ps.length = s.ps.length := List.length_set; rw [this]; exact h.len
  have hsl : setP (slotS s) key (some at_) = slotS (freshT s key at_) := slotS_fresh h.ok hok' hp rfl
  have hwi : (Lit.int .i64 (at_ : Int)).wf = true := wf64 (by have := h.len; omega)
  have HW1 := Lib.hid hw1
  have HH := Lib.hid h1
  have HK := Lib.hid k1
  have HT := Lib.hid hT
  have HV := Lib.hid hV
  have HL := Lib.hid hlen'
  clear h h1 k1 hp hV hT hO hs hf B1 hlen' hw1
  go_enter Try.func61, Try.ntmps61
  go_upto_region 8 with fail
  rw [HW1.out]
  go_wp2_with fail
  refine FR.out.mono ?_
  rintro e w2 ⟨rfl, B2⟩
  have R2 := HH.out.raw.high (Nat.le_refl _) (Chg.of_below (fun k _ => w1.heap.size ≤ k) B2)
  obtain ⟨d0, d1, d2⟩ := R2.cells
  obtain ⟨R3, TH, k3⟩ := R2.plcSet hlt (some (key, 1))
  obtain ⟨W3, hW3⟩ : ∃ W, w2.setCells gp (at_ * 3) (encPl (some (key, 1))) = W := ⟨_, rfl⟩
  rw [hW3] at R3 k3
  obtain ⟨f0, f1, f2⟩ := R3.cells
  obtain ⟨w4, hr4, m4, g4⟩ := R3.map.put kW Try.underlying3 Try.underlying126 (by unfold maxLen; omega) hk at_ hwi
  have R4 := R3.mapT m4 g4
  have fin : GetP w G N s F key (.returned (.tuple #[.int .i64 (at_ : Int), .bool true, kZV, .bool false, .int .i64 0])) w4 := by
    refine ⟨by rw [HV.out], _, ⟨gp, b, n + 1, Ai, ci, ?_, by omega, fun _ _ => Iff.rfl⟩, ?_, fun k i hk => .inl ((hF k i).2 hk)⟩
    · rw [HT.out]
      exact (show LruR w4 G (freshT s key at_).ps (freshT s key at_).idle _ gp b (n + 1) Ai ci from R4).lru hsl hok' hoks' HL.out
    · have c1 : Chg F w w1 := HK.out.mono fun k i hk hle => by omega
      have c2 : Chg F w1 w2 := Chg.of_below _ B2
      have c3 : Chg F w2 W3 := k3.mono fun k i _ hs => (hF k i).2 (.inr (.inl hs))
      exact ((c1.trans c2 fun _ _ _ h => h).trans c3 fun _ _ _ h => h).trans (Chg.of_imap (F := F) R3.map g4 ((hF _ _).2 (.inr (.inr (.inl rfl))))) fun _ _ _ h => h
  have HFi := Lib.hid fin
  have TH' := Lib.hid TH
  have HW3 := Lib.hid hW3
  have hsz : (Try.prog.info? 195).map (·.size) = some (#[.string (nameB key), .int .i64 1, .bool true] : Array Value).size := plSz
  have hone : (#[.string (nameB key), .int .i64 1, .bool true] : Array Value).all (·.oneCell') = true := by simp [Value.oneCell']
  have TH2 : w2.there gp (at_ * 3) (#[.string (nameB key), .int .i64 1, .bool true] : Array Value).size := TH
  clear R2 R3 R4 TH k3 m4 g4 fin hW3 B2
  go_wp2_with (first
    | ((with_reducible refine wpList_store_mid rfl 195 (.tmp 96) (.tmp 95) rfl gp (at_ * 3) #[.string (nameB key), .int .i64 1, .bool true] rfl rfl TH2 hsz hone ?_); rw [show w2.setCells gp (at_ * 3) (#[.string (nameB key), .int .i64 1, .bool true] : Array Value).toList = W3 from HW3.out]))
  (try simp only [Exit.inBlock, Exit.then]); refine bodyPost_ret (results_tmp5 rfl _ _ _) rfl ?_
  exact HFi.out
set_option maxRecDepth 20000 in
set_option maxHeartbeats 4000000 in
theorem get_starved (key : Int) (h : LruIn w G s gp b n Ai ci) (hk : kOk key) (hn : n ≤ N) (hF : ∀ k i, F k i ↔ lruFp G gp b Ai ci k i) (hs : slotS s key = none) (hf : freeS s = none) (hi : s.idle = []) :
    Calls Try.prog 61 #[.pointer (some ⟨G, 0, none⟩), kV key] w (GetP w G N s F key) := by
  have hlook := h.look hk
  rw [hs] at hlook
  simp only [Option.getD_none, Option.isSome_none] at hlook
  obtain ⟨c0, c1, c2⟩ := h.cells
  have hO : getO s key = .starved := by unfold getO; rw [hs]; dsimp only; rw [hf]; dsimp only; rw [hi]
  have hV : getV s key = .tuple #[.int .i64 0, .bool false, kZV, .bool false, .int .i64 41] := by unfold getV; rw [hO]
  have hT : getT s key = s := by unfold getT; rw [hO]
  have hfr : freeI s = -1 := by unfold freeI; rw [hf]
  obtain ⟨w1, hw1, B1, S1⟩ : ∃ W, w.alloc (.cells #[.int .i64 0] 3) = W ∧ Below w.heap.size w W ∧ W.heap.size = w.heap.size + 1 := ⟨_, rfl, (Below.refl _ w).alloc (Nat.le_refl _) _, by simp⟩
  have k1 : Chg (fun k _ => w.heap.size ≤ k) w w1 := Chg.of_below _ B1
  have h1 : LruIn w1 G s gp b n Ai ci := h.chg k1 fun k i hk hle => by have := h.fp_lt hk; omega
  have FR := Lib.hid (free_any h1)
  rw [hfr] at FR
  have hil : s.idle.length = 0 := by rw [hi]; rfl
  have HW1 := Lib.hid hw1
  have HH := Lib.hid h1
  have HK := Lib.hid k1
  have HT := Lib.hid hT
  have HV := Lib.hid hV
  clear h h1 k1 hV hT hO hs hf B1 hw1 hi
  go_enter Try.func61, Try.ntmps61
  go_upto_region 8 with fail
  rw [HW1.out]
  go_wp2_with fail
  refine FR.out.mono ?_
  rintro e w2 ⟨rfl, B2⟩
  have R2 := HH.out.raw.high (Nat.le_refl _) (Chg.of_below (fun k _ => w1.heap.size ≤ k) B2)
  obtain ⟨d0, d1, d2⟩ := R2.cells
  rw [hil] at d2
  have fin : GetP w G N s F key (.returned (.tuple #[.int .i64 0, .bool false, kZV, .bool false, .int .i64 41])) w2 := by
    refine ⟨by rw [HV.out], _, ⟨gp, b, n, Ai, ci, ?_, by omega, fun _ _ => Iff.rfl⟩, ?_, fun k i hk => .inl ((hF k i).2 hk)⟩
    · rw [HT.out]
      exact R2.lru rfl HH.out.ok HH.out.oks HH.out.len
    · have c1 : Chg F w w1 := HK.out.mono fun k i hk hle => by omega
      exact c1.trans (Chg.of_below F B2) fun _ _ _ h => h
  have HFi := Lib.hid fin
  clear R2 fin B2
  go_wp2_with fail
  (try simp only [Exit.inBlock, Exit.then]); refine bodyPost_ret (results_tmp5 rfl _ _ _) rfl ?_
  exact HFi.out
set_option maxRecDepth 20000 in
set_option maxHeartbeats 4000000 in
theorem get_evict (key : Int) (h : LruIn w G s gp b n Ai ci) (hk : kOk key) (hn : n ≤ N) (hN : N < 4611686018427387904) (hF : ∀ k i, F k i ↔ lruFp G gp b Ai ci k i) {at_ : Nat} {l : List Nat} (hs : slotS s key = none) (hf : freeS s = none) (hi : s.idle = at_ :: l) :
    Calls Try.prog 61 #[.pointer (some ⟨G, 0, none⟩), kV key] w (GetP w G N s F key) := by
  have hlook := h.look hk
  rw [hs] at hlook
  simp only [Option.getD_none, Option.isSome_none] at hlook
  obtain ⟨c0, c1, c2⟩ := h.cells
  obtain ⟨old, hp⟩ := (h.ok.idle at_).1 (by rw [hi]; exact List.mem_cons_self ..)
  have hlt := (List.getElem?_eq_some_iff.1 hp).1
  have hko : kOk old := h.oks _ _ _ hp
  have hne : old ≠ key := fun e => slotS_none hs at_ 0 (by rw [← e]; exact hp)
  have hO : getO s key = .evict at_ old := by unfold getO; rw [hs]; dsimp only; rw [hf]; dsimp only; rw [hi]; dsimp only; rw [plcAt_eq hp]
  have hV : getV s key = .tuple #[.int .i64 (at_ : Int), .bool true, kV old, .bool true, .int .i64 0] := by unfold getV; rw [hO]
  have hT : getT s key = evictT s key at_ := by unfold getT; rw [hO]
  have hfr : freeI s = -1 := by unfold freeI; rw [hf]
  obtain ⟨w1, hw1, B1, S1⟩ : ∃ W, w.alloc (.cells #[.int .i64 0] 3) = W ∧ Below w.heap.size w W ∧ W.heap.size = w.heap.size + 1 := ⟨_, rfl, (Below.refl _ w).alloc (Nat.le_refl _) _, by simp⟩
  have k1 : Chg (fun k _ => w.heap.size ≤ k) w w1 := Chg.of_below _ B1
  have h1 : LruIn w1 G s gp b n Ai ci := h.chg k1 fun k i hk hle => by have := h.fp_lt hk; omega
  have FR := Lib.hid (free_any h1)
  rw [hfr] at FR
  have hlt' : (at_ : Int) < (s.ps.length : Int) := by omega
  have hok' := h.ok.evict hs hi
  have hoks' : ∀ (i : Nat) (k r : Int), (evictT s key at_).ps[i]? = some (some (k, r)) → kOk k := oks_set h.oks hk
  have hlen' : 1 ≤ (evictT s key at_).ps.length ∧ (evictT s key at_).ps.length ≤ 16 := by have : (evictT s key at_).ps.length = s.ps.length := List.length_set; rw [this]; exact h.len
  have hsl : setP (setP (slotS s) old none) key (some at_) = slotS (evictT s key at_) := slotS_evict h.ok hok' hne hp rfl
  have hwi : (Lit.int .i64 (at_ : Int)).wf = true := wf64 (by have := h.len; omega)
  have hcl : s.idle.length ≤ ci := h.idl.le
  have hil : 1 ≤ s.idle.length := by rw [hi]; simp
  obtain ⟨L, hL⟩ : ∃ L, L = s.idle.length := ⟨_, rfl⟩
  rw [← hL] at c2 hcl hil
  have hcm : ci ≤ 9223372036854775807 := by
    rcases h.idl with ⟨_, e, _⟩ | ⟨_, _, _, _, _, h2, _⟩
    · rw [e] at hL; simp at hL; omega
    · simpa [maxLen] using h2
  have HW1 := Lib.hid hw1
  have HH := Lib.hid h1
  have HK := Lib.hid k1
  have HT := Lib.hid hT
  have HV := Lib.hid hV
  have HLn := Lib.hid hlen'
  have HI := Lib.hid hi
  have HP := Lib.hid hp
  have HL := Lib.hid hL
  clear h h1 k1 hV hT hO hs hf B1 hw1 hi hp hL hlen'
  go_enter Try.func61, Try.ntmps61
  go_upto_region 8 with fail
  rw [HW1.out]
  go_wp2_with fail
  refine FR.out.mono ?_
  rintro e w2 ⟨rfl, B2⟩
  have R2 := HH.out.raw.high (Nat.le_refl _) (Chg.of_below (fun k _ => w1.heap.size ≤ k) B2)
  obtain ⟨d0, d1, d2⟩ := R2.cells
  rw [← HL.out] at d2
  obtain ⟨g, o, hA, hg, hx⟩ := R2.idl.cell (k := 0) (x := at_) (by rw [HI.out]; rfl)
  subst hA
  have x0 : w2.cell? ⟨g, o, none⟩ = some (.int .i64 (at_ : Int)) := (hx 0 _ rfl).1
  have d2f : w2.frozen? ⟨G, 2, none⟩ = false := R2.blk.frozen 2
  have hLi : ((L : Int) == 0) = false := by rw [beq_eq_false_iff_ne]; omega
  have hL0 : (0 : Int) < (L : Int) := by omega
  have hdr := R2.idl.drop 1 (by rw [← HL.out]; omega)
  obtain ⟨A1, hA1⟩ : ∃ A1 : Option Addr, A1 = if ci = 1 then some ⟨g, o, none⟩ else some ⟨g, o + 1, none⟩ := ⟨_, rfl⟩
  obtain ⟨cc, hcc⟩ : ∃ cc, cc = ci - 1 := ⟨_, rfl⟩
  rw [show (if ci = 1 then some (⟨g, o, none⟩ : Addr) else (some (⟨g, o, none⟩ : Addr)).map (·.add (1 * 1))) = A1 by rw [hA1]; simp [add_lit_], ← hcc] at hdr
  have hsub : ∀ k i, slFp 1 A1 0 cc k i → slFp 1 (some ⟨g, o, none⟩) 0 ci k i := fun k i hh => by
    obtain ⟨o', e, q1, q2⟩ := hh
    rw [hA1] at e
    split at e
    · cases e; exact ⟨o, rfl, by omega, by omega⟩
    · simp only [Option.some.injEq, Addr.mk.injEq] at e
      obtain ⟨rfl, rfl, _⟩ := e
      exact ⟨o, rfl, by omega, by omega⟩
  have R3 := R2.idleT (Chg.refl _ w2) hdr fun k i hh => .inl (hsub k i hh)
  have hdl : (s.idle.drop 1).length = L - 1 := by rw [List.length_drop, HL.out]
  rw [hdl] at R3
  obtain ⟨W3, hW3⟩ : ∃ W, w2.setCell ⟨G, 2, none⟩ (.slice A1 (L - 1) cc) = W := ⟨_, rfl⟩
  rw [hW3] at R3
  have k3 : Chg F w2 W3 := by rw [← hW3]; exact Chg.setCell F w2 ((hF _ _).2 (.inl rfl)) _
  obtain ⟨f0, f1, f2⟩ := R3.cells
  have p0 := (R3.plc HP.out 0 _ rfl).1
  rw [Nat.add_zero] at p0
  have HA1 := Lib.hid hA1
  have Hcc := Lib.hid hcc
  have HW3 := Lib.hid hW3
  clear hA1 hcc hW3 hdr hx
  go_upto_region 14 with fail
  rw [← HA1.out, ← Hcc.out, HW3.out]
  have HR3 := Lib.hid R3
  clear d0 d1 d2 R2 R3 x0 d2f
  go_upto_region 15 with fail
  have M3 := HR3.out.map
  go_upto_region 16 with (first
    | (at_delete; (refine wpList_delI rfl (.tmp 87) (.tmp 88) rfl kW Try.underlying126 rfl M3 old rfl hko ?_); intro w4 m4 g4))
  have R4 := HR3.out.mapT m4 g4
  have k4 := Chg.of_imap (F := F) HR3.out.map g4 ((hF _ _).2 (.inr (.inr (.inl rfl))))
  obtain ⟨e0, e1, e2⟩ := R4.cells
  obtain ⟨R5, TH, k5⟩ := R4.plcSet hlt (some (key, 1))
  obtain ⟨W5, hW5⟩ : ∃ W, w4.setCells gp (at_ * 3) (encPl (some (key, 1))) = W := ⟨_, rfl⟩
  rw [hW5] at R5 k5
  obtain ⟨h0, h1, h2⟩ := R5.cells
  obtain ⟨w6, hr6, m6, g6⟩ := R5.map.put kW Try.underlying3 Try.underlying126 (by unfold maxLen; omega) hk at_ hwi
  have R6 := R5.mapT m6 g6
  have hid : (evictT s key at_).idle = s.idle.drop 1 := rfl
  have fin : GetP w G N s F key (.returned (.tuple #[.int .i64 (at_ : Int), .bool true, kV old, .bool true, .int .i64 0])) w6 := by
    refine ⟨by rw [HV.out], _, ⟨gp, b, n + 1, A1, cc, ?_, by omega, fun _ _ => Iff.rfl⟩, ?_, fun k i hk => .inl ((hF k i).2 ?_)⟩
    · rw [HT.out]
      exact (show LruR w6 G (evictT s key at_).ps (evictT s key at_).idle _ gp b (n + 1) A1 cc from R6).lru hsl hok' hoks' HLn.out
    · have c1 : Chg F w w1 := HK.out.mono fun k i hk hle => by omega
      have c2 : Chg F w1 w2 := Chg.of_below _ B2
      have c5 : Chg F w4 W5 := k5.mono fun k i _ hs => (hF k i).2 (.inr (.inl hs))
      exact ((((c1.trans c2 fun _ _ _ h => h).trans k3 fun _ _ _ h => h).trans k4 fun _ _ _ h => h).trans c5 fun _ _ _ h => h).trans (Chg.of_imap (F := F) R5.map g6 ((hF _ _).2 (.inr (.inr (.inl rfl))))) fun _ _ _ h => h
    · rcases hk with e | e | e | e
      · exact .inl e
      · exact .inr (.inl e)
      · exact .inr (.inr (.inl e))
      · exact .inr (.inr (.inr (hsub _ _ e)))
  have HFi := Lib.hid fin
  have HW5 := Lib.hid hW5
  have hsz : (Try.prog.info? 195).map (·.size) = some (#[.string (nameB key), .int .i64 1, .bool true] : Array Value).size := plSz
  have hone : (#[.string (nameB key), .int .i64 1, .bool true] : Array Value).all (·.oneCell') = true := by simp [Value.oneCell']
  have TH2 : w4.there gp (at_ * 3) (#[.string (nameB key), .int .i64 1, .bool true] : Array Value).size := TH
  clear R4 R5 R6 TH k3 m4 g4 k4 k5 m6 g6 fin hW5 B2 M3
  go_wp2_with (first
    | ((with_reducible refine wpList_store_mid rfl 195 (.tmp 96) (.tmp 95) rfl gp (at_ * 3) #[.string (nameB key), .int .i64 1, .bool true] rfl rfl TH2 hsz hone ?_); rw [show w4.setCells gp (at_ * 3) (#[.string (nameB key), .int .i64 1, .bool true] : Array Value).toList = W5 from HW5.out]))
  (try simp only [Exit.inBlock, Exit.then]); refine bodyPost_ret (results_tmp5 rfl _ _ _) rfl ?_
  exact HFi.out
/-- Get, whatever the key -/
theorem get_any (key : Int) (h : LruAt w G N s F) (hk : kOk key) (hN : N < 4611686018427387904) (hr : refsLe s N) :
    Calls Try.prog 61 #[.pointer (some ⟨G, 0, none⟩), kV key] w (GetP w G N s F key) := by
  obtain ⟨gp, b, n, Ai, ci, h, hn, hF⟩ := h
  cases hs : slotS s key with
  | some i => exact get_hit key h hk hn hF hs (by have := refsLe_at (by omega) hr i; omega)
  | none =>
    cases hf : freeS s with
    | some i => exact get_fresh key h hk hn hN hF hs hf
    | none =>
      cases hi : s.idle with
      | nil => exact get_starved key h hk hn hF hs hf hi
      | cons i l => exact get_evict key h hk hn hN hF hs hf hi
end
end Go.Proofs.Ytiidheknlacioaa.KS
