/- The transfer log: a write that is taken. -/
import Derived.Test.YtagkhhoimgighaaTlog2
import Derived.Test.YtagkhhoimgighaaArr
import Derived.Deep.RegionLaw
namespace Go.Proofs.Ytagkhhoimgighaa
open Go.RowKit

theorem entTy : SlTy Try.prog 27 36 3 24 := SlTy.mk' (z := .agg #[.int .i64 0, .int .i64 0, .int .i64 0]) Try.underlying27 (by kernel_rfl) (by rfl)
theorem entSz3 : (Try.prog.info? 36).map (·.size) = some 3 := by kernel_rfl
theorem entSz (x y z : Value) : (Try.prog.info? 36).map (·.size) = some (#[x, y, z] : Array Value).size := entSz3
theorem size3 (x y z a b c : Value) : (#[x, y, z] : Array Value).size = (#[a, b, c] : Array Value).size := rfl
theorem one3 {x y z : Value} (hx : x.oneCell' = true) (hy : y.oneCell' = true) (hz : z.oneCell' = true) : (#[x, y, z] : Array Value).all (·.oneCell') = true := by simp [hx, hy, hz]
section
variable {w w' : World} {G : Nat} {s : LogS} {F F' : Nat → Nat → Prop} {A : Option Addr} {c b n : Nat}
set_option maxRecDepth 20000 in
set_option maxHeartbeats 4000000 in
theorem add_yes (id blk : Int) (h : LogAt w G s F) (hw : (Lit.int .i64 id).wf = true) (hyes : addR s id blk = 0) (ht : s.turn < 9223372036854775807) (hl : s.limit ≤ 1024) (hwd : s.width ≤ 64) (hfl : 0 ≤ s.filled) :
    Calls Try.prog 12 #[.pointer (some ⟨G, 0, none⟩), .int .i64 id, .int .i64 blk] w fun e w' => e = .returned (.tuple #[.int .i64 s.opn, .bool (decide (s.filled + 1 = s.width)), .int .i64 0]) ∧ ∃ g F', LogAt w' G (addS s id blk g) F' ∧ Chg F w w' ∧ ∀ k i, F' k i → F k i ∨ w.heap.size ≤ k := by
  obtain ⟨A, c, b, n, h, hF⟩ := h
  obtain ⟨c0, c1, c2, c3, c4, c5, c6⟩ := h.cells
  have hlook := h.look hw w rfl
  have h1 : ¬ id < 1 := fun hh => by unfold addR at hyes; rw [if_pos hh] at hyes; omega
  have h2 : ¬ (blk < 0 ∨ 4096 ≤ blk) := fun hh => by unfold addR at hyes; rw [if_neg h1, if_pos hh] at hyes; omega
  have hf : findW s.ws id = none := by
    unfold addR at hyes
    rw [if_neg h1, if_neg h2] at hyes
    cases hq : findW s.ws id with
    | none => rfl
    | some g => rw [hq, if_pos (by rfl)] at hyes; omega
  have h5 : ¬ (s.limit ≤ (s.ws.length : Int) ∨ s.width ≤ s.filled) := fun hh => by unfold addR at hyes; rw [if_neg h1, if_neg h2, hf, if_neg (by simp), if_pos hh] at hyes; omega
  have h3 : ¬ blk < 0 := by omega
  have h4 : ¬ 4096 ≤ blk := by omega
  have h6 : ¬ s.limit ≤ (s.ws.length : Int) := by omega
  have h7 : ¬ s.width ≤ s.filled := by omega
  rw [hf] at hlook
  unfold ptrV at hlook
  have hf3 := h.blk.frozen 3
  have hf4 := h.blk.frozen 4
  have hf5 := h.blk.frozen 5
  have Hh := Lib.hid h
  have Hf := Lib.hid hf
  have hGlt := h.blk.lt
  have Hlen := Lib.hid (show s.ws.length < 1024 from by omega)
  clear h hf h2 h5 hyes
  go_enter Try.func12, Try.ntmps12
  go_wp2
  go_quiet (fail)
  have he : ∀ m, Blk ((w.drewN m).alloc (.cells #[.int .i64 0, .int .i64 0, .int .i64 0] 36)) w.heap.size 36 #[.int .i64 0, .int .i64 0, .int .i64 0] := fun m => Blk.new (w.drewN m) _ _
  have hGne : G ≠ w.heap.size := by omega
  have hwt : IntKind.u64.wrap ((s.turn : Int) + 1) = (s.turn : Int) + 1 := by rw [IntKind.wrap_u64]; omega
  go_wp2_with (((with_reducible refine wpList_store_blk rfl 36 (.tmp 9) (.tmp 56) rfl w.heap.size 36 #[.int .i64 0, .int .i64 0, .int .i64 0] #[.int .i64 id, .int .i64 blk, .int .i64 s.opn] ?hb rfl rfl (entSz _ _ _) (size3 _ _ _ _ _ _) (one3 rfl rfl rfl) ?_); (case hb => exact he _); intro w1 hb1 hg1 hs1; have hh1 : w1.heap.size = w.heap.size + 1 := by rw [hs1, World.size_alloc]; rfl); have k1 : Chg (fun k _ => w.heap.size ≤ k) w w1 := (((Chg.refl _ w).drewN _).trans (Chg.alloc (fun k _ => w.heap.size ≤ k) _ _) fun _ _ _ h => h).trans (Chg.of_row (F := fun k _ => w.heap.size ≤ k) hg1 (he _) hb1 rfl fun _ => Nat.le_refl _) fun _ _ _ h => h; have H1 := Hh.out.chg k1 fun k i hk hle => absurd (Hh.out.fp_lt hk) (Nat.not_lt.2 hle); obtain ⟨d0, d1, d2, d3, d4, d5, d6⟩ := H1.cells; have g4 := H1.blk.frozen 4; have HH1 := Lib.hid H1; clear H1)
  obtain ⟨w2, hw2⟩ : ∃ W, W = w1.setCell ⟨G, 4, none⟩ (.int .u64 ((s.turn : Int) + 1)) := ⟨_, rfl⟩
  rw [← hw2]
  have H2 : LogIn w2 G { s with turn := s.turn + 1 } A c b n := by rw [hw2]; exact HH1.out.setG 4 _ _ rfl rfl (Nat.le_succ _)
  have hb2 : Blk w2 w.heap.size 36 #[.int .i64 id, .int .i64 blk, .int .i64 s.opn] := by rw [hw2]; exact hb1.far (fun h => hGne h.symm) _
  have hh2 : w2.heap.size = w.heap.size + 1 := by rw [hw2]; simpa [World.setCell] using hh1
  have k2 : Chg (fun k _ => k = G ∨ w.heap.size ≤ k) w w2 := by
    rw [hw2]
    exact (k1.mono fun _ _ _ h => .inr h).trans (Chg.setCell (fun k _ => k = G ∨ w.heap.size ≤ k) w1 (.inl rfl) _) fun _ _ _ h => h
  clear hw2 hb1 hg1 hs1 hh1 k1 HH1 d0 d1 d2 d3 d4 d5 d6 g4 c0 c1 c2 c3 c4 c5 c6 hf3 hf4 hf5 he h1 h3 h4 h6 h7 hlook hwt
  obtain ⟨d0, d1, d2, d3, d4, d5, d6⟩ := H2.cells
  have e0 : w2.cell? ⟨w.heap.size, 0, none⟩ = some (.int .i64 id) := hb2.cell 0
  have e1 : w2.cell? ⟨w.heap.size, 1, none⟩ = some (.int .i64 blk) := hb2.cell 1
  have e2 : w2.cell? ⟨w.heap.size, 2, none⟩ = some (.int .i64 s.opn) := hb2.cell 2
  have hs4 : w2.cell? ⟨G, 4, none⟩ = some (.int .u64 ((s.turn : Int) + 1)) := d4
  have hn : n < maxLen := by have := Hh.out.le; unfold maxLen; omega
  obtain ⟨X, hX⟩ : ∃ X : Obj, X = .cells #[.int .i64 id, .int .i64 blk, .int .i64 s.opn, .int .u64 ((s.turn : Int) + 1), .bool false] 73 := ⟨_, rfl⟩
  have kA : Chg (fun k _ => w2.heap.size ≤ k) w2 (w2.drew.alloc X) := ((Chg.refl _ w2).drew).trans (Chg.alloc _ _ _) fun _ _ _ h => h
  have HA : LogIn (w2.drew.alloc X) G { s with turn := s.turn + 1 } A c b n := H2.chg kA fun k i hk hle => absurd (H2.fp_lt hk) (Nat.not_lt.2 hle)
  obtain ⟨w3, hr3, hm3, hg3⟩ := HA.map.put Try.underlying3 Try.underlying69 hn hw (some w2.heap.size) (by simp)
  unfold ptrV at hr3
  have hEb : w.heap.size ≠ b := by have := Hh.out.map.lt; omega
  have bA : Blk (w2.drew.alloc X) w.heap.size 36 #[.int .i64 id, .int .i64 blk, .int .i64 s.opn] := hb2.drew.alloc X
  have b3 : Blk w3 w.heap.size 36 #[.int .i64 id, .int .i64 blk, .int .i64 s.opn] := bA.grown hg3 (by simpa using hEb)
  have G3 : Blk w3 G 71 (logC { s with turn := s.turn + 1 } A c b) := HA.blk.grown hg3 (by have := H2.map_ne; intro h; injection h with h; exact this h.symm)
  have S0 : ∀ W, Blk W w.heap.size 36 #[.int .i64 id, .int .i64 blk, .int .i64 s.opn] → Blk W G 71 (logC { s with turn := s.turn + 1 } A c b) → (W.cell? ⟨G, 6, none⟩ = some (.map (some b)) ∧ W.cell? ⟨G, 4, none⟩ = some (.int .u64 ((s.turn : Int) + 1)) ∧ W.cell? ⟨w.heap.size, 0, none⟩ = some (.int .i64 id) ∧ W.cell? ⟨w.heap.size, 1, none⟩ = some (.int .i64 blk) ∧ W.cell? ⟨w.heap.size, 2, none⟩ = some (.int .i64 s.opn)) :=
    fun W h1 h2 => ⟨h2.cell 6, h2.cell 4, h1.cell 0, h1.cell 1, h1.cell 2⟩
  have T0 := S0 w2.drew hb2.drew H2.blk.drew
  have TA := S0 _ bA HA.blk
  have T3 := S0 _ b3 G3
  rw [hX] at hr3 TA
  have hr4 : (Instr.mapUpdate 69 (.map (some b)) (.int .i64 id) (.pointer (some ⟨w.heap.size + 1, 0, none⟩))).run Try.prog (w2.alloc (.cells #[.int .i64 id, .int .i64 blk, .int .i64 s.opn, .int .u64 ((s.turn : Int) + 1), .bool false] 73)).drew = .ok () w3 := by
    rw [← hh2]; exact hr3
  clear hr3
  go_region_held3 (fun w' => w'.cell? ⟨G, 6, none⟩ = some (.map (some b)) ∧ w'.cell? ⟨G, 4, none⟩ = some (.int .u64 ((s.turn : Int) + 1)) ∧ w'.cell? ⟨w.heap.size, 0, none⟩ = some (.int .i64 id) ∧ w'.cell? ⟨w.heap.size, 1, none⟩ = some (.int .i64 blk) ∧ w'.cell? ⟨w.heap.size, 2, none⟩ = some (.int .i64 s.opn)) (first | exact T0 | exact TA | exact T3) (fail)
  -- behind the map
  have R3 : GSl encW 3 36 w3 A c s.ws := HA.row.chg (Chg.of_map (F := fun k _ => k = b) HA.map hg3 rfl) encW_len fun g i ⟨o, ho, h1, h2⟩ e => by
    subst e
    rcases HA.row with ⟨rfl, _⟩ | ⟨g', o', cs, rfl, _, _, hb', _⟩
    · cases ho
    · cases ho
      obtain ⟨D, ⟨es, clock, h3, _⟩, _⟩ := HA.map
      rw [h3] at hb'
      cases hb'
  have hs3 : w.heap.size + 2 ≤ w3.heap.size := by
    have h1 := hg3.size
    rw [World.size_alloc] at h1
    have h2 : w2.drew.heap.size = w2.heap.size := rfl
    omega
  obtain ⟨x, hx⟩ : ∃ x : Wr, x = ⟨id, blk, s.opn, s.turn + 1, false, w2.heap.size⟩ := ⟨_, rfl⟩
  have hex : (encW x).toArray = #[.int .i64 id, .int .i64 blk, .int .i64 s.opn] := by rw [hx]; rfl
  have R4 : GSl encW 3 36 (w3.drew.alloc (.cells #[.int .i64 id, .int .i64 blk, .int .i64 s.opn] 36)) A c s.ws := R3.chg (((Chg.refl (fun k _ => w3.heap.size ≤ k) w3).drew).trans (Chg.alloc _ _ _) fun _ _ _ h => h) encW_len fun g i ⟨o, ho, _, _⟩ => by
    rcases R3 with ⟨rfl, _⟩ | ⟨g', o', cs, rfl, _, _, hb', _⟩
    · cases ho
    · cases ho; have := Chg.lt hb'; omega
  have kR : Chg (fun k _ => w3.heap.size ≤ k) w3 (w3.drew.alloc (.cells #[.int .i64 id, .int .i64 blk, .int .i64 s.opn] 36)) := ((Chg.refl (fun k _ => w3.heap.size ≤ k) w3).drew).trans (Chg.alloc _ _ _) fun _ _ _ h => h
  have BX : Blk (w2.drew.alloc X) w2.heap.size 73 #[.int .i64 id, .int .i64 blk, .int .i64 s.opn, .int .u64 ((s.turn : Int) + 1), .bool false] := by rw [hX]; exact Blk.new w2.drew _ _
  have N4 := RdS.new1 encW 3 w3.drew 36 x
  rw [hex] at N4
  have l5 : w3.cell? ⟨G, 5, none⟩ = some (.slice A s.ws.length c) := G3.cell 5
  have z5 : w3.frozen? ⟨G, 5, none⟩ = false := G3.frozen 5
  have m0 := b3.cell 0
  have m1 := b3.cell 1
  have m2 := b3.cell 2
  have hlen1 : s.ws.length + [x].length ≤ maxLen := by have := Hlen.out; unfold maxLen; simp only [List.length_singleton]; omega
  have hlen2 : (s.ws.length + [x].length) * 24 ≤ 140737488355328 := by have := Hlen.out; simp only [List.length_singleton]; omega
  have Hh2 := Lib.hid hh2
  clear hh2
  clear T0 TA T3 S0 hr4 d0 d1 d2 d3 d4 d5 d6 e0 e1 e2 hs4 hn hX
  have hA5 : ∀ i, ¬ slFp 3 A s.ws.length c G i := fun i h => (HA.row_ne (slFp_zero h)).1 rfl
  have G4' : Blk (w3.drew.alloc (.cells #[.int .i64 id, .int .i64 blk, .int .i64 s.opn] 36)) G 71 (logC { s with turn := s.turn + 1 } A c b) := G3.drew.alloc _
  have y5 : (w3.alloc (.cells #[.int .i64 id, .int .i64 blk, .int .i64 s.opn] 36)).cell? ⟨G, 5, none⟩ = some (.slice A s.ws.length c) := (G3.alloc _).cell 5
  go_wp2
  go_region_law (first | (refine step_appendG entTy (by decide) encW_len encW_one rfl (.tmp 80) (.tmp 82) rfl A c s.ws (by rfl) (by exact R4) (some ⟨w3.heap.size, 0, none⟩) 1 [x] (by rfl) (by exact N4) hlen1 hlen2 ?_; intro A' c' w4 h4 k4 q4; have G4 := k4.blk G4' hA5; have q5 := G4.cell 5; have z4 := G4.frozen 5; simp only [logC] at q5))
  all_goals
    have H5 := LogIn.grow (s := { s with turn := s.turn + 1 }) HA (x := x) (by rw [hx]; exact BX) (by rw [hx]; exact hm3) hg3 kR k4 h4 q4 (by rw [hx]; exact Hf.out) (by rw [hx]; exact hw) (Nat.succ_le_succ Hh.out.le)
    have k5 : Chg F w (w4.setCell ⟨G, 5, none⟩ (.slice A' (s.ws.length + 1) c')) := by
      have hFG : ∀ i, F G i := fun i => (hF G i).2 (.inl rfl)
      have hFb : ∀ i, F b i := fun i => (hF b i).2 (.inr (.inl rfl))
      have t1 : Chg F w w2 := k2.mono fun k i hk h => by
        rcases h with rfl | h
        · exact hFG i
        · omega
      have t2 : Chg F w (w2.drew.alloc X) := t1.trans kA fun k i hk h => by have := t1.size; omega
      have t3 : Chg F w w3 := t2.trans (Chg.of_map (F := fun k _ => k = b) HA.map hg3 rfl) fun k i _ h => by subst h; exact hFb i
      have t4 := t3.trans kR fun k i hk h => by have := t3.size; omega
      have t5 := t4.trans k4 fun k i _ h => (hF k i).2 (.inr (.inr (.inl (slFp_zero h))))
      exact t5.trans (Chg.setCell F _ (hFG 5) _) fun _ _ _ h => h
    have hfp : ∀ k i, logFp G A' c' b (s.ws ++ [x]) k i → F k i ∨ w.heap.size ≤ k := by
      intro k i h
      rcases h with rfl | rfl | h | ⟨y, hy, rfl⟩
      · exact .inl ((hF _ _).2 (.inl rfl))
      · exact .inl ((hF _ _).2 (.inr (.inl rfl)))
      · rcases q4 with ⟨rfl, rfl⟩ | ⟨g, rfl, hg⟩
        · exact .inl ((hF _ _).2 (.inr (.inr (.inl h))))
        · obtain ⟨o, ho, _⟩ := h
          cases ho
          exact .inr (Nat.le_trans (show w.heap.size ≤ w3.heap.size by omega) (Nat.le_trans kR.size hg))
      · rcases List.mem_append.1 hy with hy | hy
        · exact .inl ((hF _ _).2 (.inr (.inr (.inr ⟨y, hy, rfl⟩))))
        · obtain rfl := List.mem_singleton.1 hy
          exact .inr (by rw [hx]; show w.heap.size ≤ w2.heap.size; rw [Hh2.out]; omega)
    obtain ⟨w5, hw5⟩ : ∃ W, W = w4.setCell ⟨G, 5, none⟩ (.slice A' (s.ws.length + 1) c') := ⟨_, rfl⟩
    rw [← hw5]
    rw [← hw5] at H5 k5
    have H6 := H5.setG 3 (.int .i64 (s.filled + 1)) (addS s id blk x.at_) (by rw [addS, hx]; rfl) (by rw [addS, hx]) (Nat.le_refl _)
    obtain ⟨f0, f1, f2, f3, f4, f5, f6⟩ := H5.cells
    have v3 := H5.blk.frozen 3
    have hwf : IntKind.i64.wrap (s.filled + 1) = s.filled + 1 := i64_in_ _ (by omega)
    have HH6 := Lib.hid H6
    have Hx := Lib.hid hx
    have hfp' : ∀ k i, logFp G A' c' b (addS s id blk x.at_).ws k i → F k i ∨ w.heap.size ≤ k := by rw [show (addS s id blk x.at_).ws = s.ws ++ [x] from by rw [addS, hx]]; exact hfp
    clear hw5 H5 H6 q4 h4 k4 G4 q5 z4 hfp f5 f6 f0 hx kR N4 R4 G4' y5 l5 z5 hA5 R3 b3 bA BX HA H2 kA hg3 hm3 k2 hb2
    go_wp2
    go_quiet (fail)
    go_wp2
    go_ret3
    refine ⟨rfl, x.at_, logFp G A' c' b (addS s id blk x.at_).ws, ⟨A', c', b, n + 1, ⟨HH6.out.blk, HH6.out.row, HH6.out.map, HH6.out.std, HH6.out.ids, HH6.out.ok, HH6.out.le⟩, fun _ _ => Iff.rfl⟩, ?_, hfp'⟩
    exact (k5.trans (Chg.setCell F _ ((hF G 3).2 (.inl rfl)) _) fun _ _ _ h => h).drewN _
end
end Go.Proofs.Ytagkhhoimgighaa
