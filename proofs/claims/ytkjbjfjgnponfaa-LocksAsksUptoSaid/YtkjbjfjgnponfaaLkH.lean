/- Package locks: Acquire, Release, Holders, Waiters, New, by contract. -/
import Derived.Test.YtkjbjfjgnponfaaLkG
import Derived.Laws.MakeOwn
import Derived.OwnWalk
namespace Go.Proofs.Ytkjbjfjgnponfaa
open Go.RowKit
set_option linter.unusedSimpArgs false
set_option linter.unusedVariables false
def acqT (n : Nat) (L : Nat → List Pl) (wait most ex mode owner : Int) : (Nat → List Pl) × Int × Bool × Int :=
  if mode ≠ 1 ∧ mode ≠ 2 then (L, wait, false, 1)
  else if ¬ (0 ≤ ex ∧ ex < (n : Int)) then (L, wait, false, 2)
  else (upd (upd L (ex.toNat * 2) (acqL (L (ex.toNat * 2)) (L (ex.toNat * 2 + 1)) mode owner wait most).1) (ex.toNat * 2 + 1) (acqL (L (ex.toNat * 2)) (L (ex.toNat * 2 + 1)) mode owner wait most).2.1,
    wait + ((acqL (L (ex.toNat * 2)) (L (ex.toNat * 2 + 1)) mode owner wait most).2.2.1 : Int), (acqL (L (ex.toNat * 2)) (L (ex.toNat * 2 + 1)) mode owner wait most).2.2.2.1, (acqL (L (ex.toNat * 2)) (L (ex.toNat * 2 + 1)) mode owner wait most).2.2.2.2)
def relT (n : Nat) (L : Nat → List Pl) (wait ex owner : Int) : (Nat → List Pl) × Int × List Int × Int :=
  if ¬ (0 ≤ ex ∧ ex < (n : Int)) then (L, wait, [], 2)
  else match leaveL (L (ex.toNat * 2)) (L (ex.toNat * 2 + 1)) owner with
    | none => (L, wait, [], 92)
    | some q => (upd (upd L (ex.toNat * 2) q.1) (ex.toNat * 2 + 1) q.2.1, wait - (q.2.2.2 : Int) - (q.2.2.1.length : Int), q.2.2.1, 0)
/-- what a call leaves -/
def FinP (base : Nat) (w : World) (T E n Q : Nat) (most ex mode owner : Int) (ok : Bool) (err : Int) (V : Nat → Value) (wait : Int) (L : Nat → List Pl) (gl : List Int) (w2 : World) : Prop :=
  ∃ V' gv, TabS base w2 T E n 0 most wait V' L ∧ Blk w2 Q 72 (reqC T ex mode owner gv ok err) ∧ OwnI w2 w.heap.size gv gl ∧ Chg (fun k _ => Fp T E n V k) w w2 ∧ (∀ k, Fp T E n V' k → Fp T E n V k ∨ w.heap.size ≤ k)
abbrev reqO (T : Nat) (ex mode owner : Int) : Obj := .cells (reqC T ex mode owner (.slice none 0 0) false 0) 72
section
variable {base : Nat} {w : World} {T E n : Nat} {most ex mode owner : Int} {V : Nat → Value} {wait : Int} {L : Nat → List Pl}
theorem start_of (h : TabS base w T E n 0 most wait V L) (ex mode owner : Int) : LvS base ((w.alloc (reqO T ex mode owner)).setCell ⟨T, 0, none⟩ (.int .i32 1)) ((w.alloc (reqO T ex mode owner)).setCell ⟨T, 0, none⟩ (.int .i32 1)) T E n w.heap.size most ex mode owner false 0 V (.slice none 0 0) wait V L (.slice none 0 0) [] := by
  have h1 := (h.below ((Below.refl w.heap.size w).alloc (Nat.le_refl _) (reqO T ex mode owner))).word 1
  refine ⟨h1, ?_, OwnI.nil_ _ _, Chg.refl _ _, fun _ h => .inl h, fun _ h => .inl h⟩
  exact (Blk.new w _ _).far (fun e => by have := h.tb.lt; have e2 : w.heap.size = T := e; omega) _
theorem fin_of {mode' : Int} {ok : Bool} {err : Int} {V' : Nat → Value} {wait' : Int} {L' : Nat → List Pl} {gv : Value} {gl : List Int} {w' : World} (h : TabS base w T E n 0 most wait V L) (hS : LvS base ((w.alloc (reqO T ex mode owner)).setCell ⟨T, 0, none⟩ (.int .i32 1)) w' T E n w.heap.size most ex mode' owner ok err V (.slice none 0 0) wait' V' L' gv gl) :
    w'.cell? ⟨T, 0, none⟩ = some (.int .i32 1) ∧ w'.frozen? ⟨T, 0, none⟩ = false ∧ FinP base w T E n w.heap.size most ex mode' owner ok err V wait' L' gl (w'.setCell ⟨T, 0, none⟩ (.int .i32 0)) := by
  refine ⟨hS.tab.tb.cell 0, hS.tab.tb.frozen 0, V', gv, hS.tab.word 0, hS.req.far (fun e => blk_type_ne hS.req hS.tab.tb (by decide) e) _, ?_, ?_, fun k hk => ?_⟩
  · have hset : Chg (fun k _ => k = T) w' (w'.setCell ⟨T, 0, none⟩ (.int .i32 0)) := Chg.setCell (fun k _ => k = T) _ (show T = T from rfl) _
    have h1 := hS.own.chg hset fun g hg _ e => by obtain ⟨_, cs, hb⟩ := hS.own.blk hg; exact blk_type_ne hb hS.tab.tb (by decide) e
    obtain ⟨A, c, e, hG, hA⟩ := h1
    refine ⟨A, c, e, hG, ?_⟩
    rcases hA with hA | ⟨g, hA, _⟩
    · exact .inl hA
    · refine .inr ⟨g, hA, ?_⟩
      have := hS.gp g (by rw [e, hA]; rfl)
      rcases this with h2 | h2
      · cases h2
      · have h3 : w.heap.size ≤ ((w.alloc (reqO T ex mode owner)).setCell ⟨T, 0, none⟩ (.int .i32 1)).heap.size := by simp [World.setCell]
        omega
  · have c1 : Chg (fun k _ => Fp T E n V k) w ((w.alloc (reqO T ex mode owner)).setCell ⟨T, 0, none⟩ (.int .i32 1)) := (Chg.alloc (fun k _ => Fp T E n V k) w (reqO T ex mode owner)).trans (Chg.setCell (fun k _ => k = T) _ (show T = T from rfl) _) fun k _ _ e => .inl e
    have c2 := c1.trans hS.chg fun k i hk hf => by
      rcases hf with hf | hf | hf
      · exact hf
      · omega
      · cases hf
    exact c2.trans (Chg.setCell (fun k _ => k = T) _ (show T = T from rfl) _) fun k _ _ e => .inl e
  · rcases hS.fp k hk with h1 | h1
    · exact .inl h1
    · have h3 : w.heap.size ≤ ((w.alloc (reqO T ex mode owner)).setCell ⟨T, 0, none⟩ (.int .i32 1)).heap.size := by simp [World.setCell]
      exact .inr (Nat.le_trans h3 h1)
end
theorem acq_fin {base : Nat} {W w' : World} {T E n Q : Nat} {most ex mode owner : Int} {V : Nat → Value} {wait : Int} {L : Nat → List Pl} {e : Ending} (h : AcqPost base W T E n Q most ex mode owner V (.slice none 0 0) wait L [] e w') :
    e = .returned (.tuple #[]) ∧ ∃ V', LvS base W w' T E n Q most ex mode owner (acqT n L wait most ex mode owner).2.2.1 (acqT n L wait most ex mode owner).2.2.2 V (.slice none 0 0) (acqT n L wait most ex mode owner).2.1 V' (acqT n L wait most ex mode owner).1 (.slice none 0 0) [] := by
  obtain ⟨he, h2⟩ := h
  refine ⟨he, ?_⟩
  unfold acqT
  by_cases hm : mode ≠ 1 ∧ mode ≠ 2
  · rw [if_pos hm] at h2 ⊢
    exact ⟨V, h2⟩
  · rw [if_neg hm] at h2 ⊢
    by_cases hx : ¬ (0 ≤ ex ∧ ex < (n : Int))
    · rw [if_pos hx] at h2 ⊢
      exact ⟨V, h2⟩
    · rw [if_neg hx] at h2 ⊢
      exact h2
theorem rel_fin {base : Nat} {W w' : World} {T E n Q : Nat} {most ex mode owner : Int} {V : Nat → Value} {wait : Int} {L : Nat → List Pl} {e : Ending} (h : RelPost base W T E n Q most ex mode owner V (.slice none 0 0) wait L [] e w') :
    e = .returned (.tuple #[]) ∧ ∃ V' gv', LvS base W w' T E n Q most ex mode owner false (relT n L wait ex owner).2.2.2 V (.slice none 0 0) (relT n L wait ex owner).2.1 V' (relT n L wait ex owner).1 gv' (relT n L wait ex owner).2.2.1 := by
  obtain ⟨he, h2⟩ := h
  refine ⟨he, ?_⟩
  unfold relT
  by_cases hx : ¬ (0 ≤ ex ∧ ex < (n : Int))
  · rw [if_pos hx] at h2 ⊢
    exact ⟨V, _, h2⟩
  · rw [if_neg hx] at h2 ⊢
    cases hl : leaveL (L (ex.toNat * 2)) (L (ex.toNat * 2 + 1)) owner with
    | none => rw [hl] at h2; exact ⟨V, _, h2⟩
    | some q => rw [hl] at h2; exact h2
/-- what Holders and Waiters answer: the list, the mode, the error -/
def listT (n : Nat) (L : Nat → List Pl) (ex mode : Int) : List Int × Int × Int :=
  if ¬ (0 ≤ ex ∧ ex < (n : Int)) then ([], 0, 2)
  else if mode = 1 then ((L (ex.toNat * 2 + 1)).map (·.1), 1, 0)
  else ((L (ex.toNat * 2)).map (·.1), modeOf (L (ex.toNat * 2)) mode, 0)
theorem list_fin {base : Nat} {W w' : World} {T E n Q : Nat} {most ex mode owner : Int} {V : Nat → Value} {wait : Int} {L : Nat → List Pl} {e : Ending} (h : ListPost base W T E n Q most ex mode owner V (.slice none 0 0) wait L [] e w') :
    e = .returned (.tuple #[]) ∧ ∃ gv', LvS base W w' T E n Q most ex (listT n L ex mode).2.1 owner false (listT n L ex mode).2.2 V (.slice none 0 0) wait V L gv' (listT n L ex mode).1 := by
  obtain ⟨he, h2⟩ := h
  refine ⟨he, ?_⟩
  unfold listT
  by_cases hx : ¬ (0 ≤ ex ∧ ex < (n : Int))
  · rw [if_pos hx] at h2 ⊢
    exact ⟨_, h2⟩
  · rw [if_neg hx] at h2 ⊢
    by_cases hm : mode = 1
    · rw [if_pos hm] at h2 ⊢
      exact h2
    · rw [if_neg hm] at h2 ⊢
      exact h2
theorem rd_of_g {w : World} {A : Option Addr} {c : Nat} {l : List Int} (h : GSl enc1 1 3 w A c l) : Rd encI w A l := fun i x hx => by
  obtain ⟨b, o, rfl, _, hc⟩ := h.rds i x hx
  exact ⟨_, rfl, by rw [add_lit_]; simpa using hc 0 _ rfl⟩
set_option maxRecDepth 20000 in
set_option maxHeartbeats 8000000 in
theorem acquireM_any (base T E n : Nat) (most ex mode owner : Int) (V : Nat → Value) (wait : Int) (L : Nat → List Pl) (w : World) (h : TabS base w T E n 0 most wait V L) (hn : n ≤ 4096) (hb : ∀ i, i < 2 * n → (L i).length ≤ 4000000000000) (hw : 0 ≤ wait ∧ wait ≤ 1000000) :
    Calls Try.prog 21 #[.pointer (some ⟨T, 0, none⟩), .int .i64 ex, .int .i64 mode, .int .i64 owner] w fun e w' => e = .returned (.tuple #[.bool (acqT n L wait most ex mode owner).2.2.1, .int .i64 (acqT n L wait most ex mode owner).2.2.2]) ∧ ∃ V' : Nat → Value, TabS base w' T E n 0 most (acqT n L wait most ex mode owner).2.1 V' (acqT n L wait most ex mode owner).1 ∧ Chg (fun k _ => Fp T E n V k) w w' ∧ (∀ k, Fp T E n V' k → Fp T E n V k ∨ w.heap.size ≤ k) := by
  have h0 : (w.alloc (reqO T ex mode owner)).cell? ⟨T, 0, none⟩ = some (.int .i32 0) := (h.tb.alloc _).cell 0
  have f0 := (h.tb.alloc (reqO T ex mode owner)).frozen 0
  have S0 := start_of h ex mode owner
  have g2 := Lib.hid (guarded_acquire T w.heap.size (w.alloc (reqO T ex mode owner)) (FinP base w T E n w.heap.size most ex mode owner (acqT n L wait most ex mode owner).2.2.1 (acqT n L wait most ex mode owner).2.2.2 V (acqT n L wait most ex mode owner).2.1 (acqT n L wait most ex mode owner).1 []) h0 f0 ((acquire_any base T E n w.heap.size most ex mode owner V (.slice none 0 0) wait L [] _ S0 hn hb hw).mono fun e w' hp => by
    obtain ⟨he, V', hS⟩ := acq_fin hp
    exact ⟨he, fin_of h hS⟩))
  clear S0 h h0 f0
  go_enter Try.func21, Try.ntmps21
  go_wp2_with fail
  refine g2.out.mono ?_
  rintro e w2 ⟨rfl, V', gv, hT, hQ, hO, hC, hF⟩
  clear g2
  obtain ⟨Ag, cg, eg, hGg, hAg⟩ := hO
  subst eg
  have HT := Lib.hid hT
  have HQ := Lib.hid hQ
  have HG := Lib.hid hGg
  have HC := Lib.hid hC
  have HF := Lib.hid hF
  clear hT hQ hGg hC hF
  go_wp2_with fail
  refine wp_region_noPanic ?_
  refine wp_region_held_drew (S := fun w' => w'.cell? ⟨w.heap.size, 5, none⟩ = some (.bool (acqT n L wait most ex mode owner).2.2.1) ∧ w'.cell? ⟨w.heap.size, 6, none⟩ = some (.int .i64 (acqT n L wait most ex mode owner).2.2.2)) (by kernel_rfl) (⟨HQ.out.cell 5, HQ.out.cell 6⟩) (fun hHeld => ?_)
  refine take_on (i := 0) (some 21) (v := ?vr1) rfl rfl (by kernel_rfl) (by kernel_rfl) (by kernel_rfl) (fun _ _ _ h => h) (by rfl) ?hyr1 (by with_reducible exact hHeld) ?restr1
  case hyr1 => (intro wS hSw; (try dsimp only at hSw); go_simp; try with_reducible rfl)
  try simp only [Act.put, List.setIfInBounds_toArray, List.set_cons_zero, List.set_cons_succ]
  refine take_on (i := 1) (some 22) (v := ?vr2) rfl rfl (by kernel_rfl) (by kernel_rfl) (by kernel_rfl) (fun _ _ _ h => h) (by rfl) ?hyr2 (by with_reducible exact hHeld) ?restr2
  case hyr2 => (intro wS hSw; (try dsimp only at hSw); go_simp; try with_reducible rfl)
  try simp only [Act.put, List.setIfInBounds_toArray, List.set_cons_zero, List.set_cons_succ]
  refine take_on (i := 2) (some 23) (v := ?vr3) rfl rfl (by kernel_rfl) (by kernel_rfl) (by kernel_rfl) (fun _ _ _ h => h) (by rfl) ?hyr3 (by with_reducible exact hHeld) ?restr3
  case hyr3 => (intro wS hSw; (try dsimp only at hSw); go_simp; try with_reducible rfl)
  try simp only [Act.put, List.setIfInBounds_toArray, List.set_cons_zero, List.set_cons_succ]
  refine take_on (i := 3) (some 24) (v := ?vr4) rfl rfl (by kernel_rfl) (by kernel_rfl) (by kernel_rfl) (fun _ _ _ h => h) (by rfl) ?hyr4 (by with_reducible exact hHeld) ?restr4
  case hyr4 => (intro wS hSw; (try dsimp only at hSw); go_simp; try with_reducible rfl)
  try simp only [Act.put, List.setIfInBounds_toArray, List.set_cons_zero, List.set_cons_succ]
  refine take_on (i := 4) (some 25) (v := ?vr5) rfl rfl (by kernel_rfl) (by kernel_rfl) (by kernel_rfl) (fun _ _ _ h => h) (by rfl) ?hyr5 (by with_reducible exact hHeld) ?restr5
  case hyr5 => (intro wS hSw; (try dsimp only at hSw); go_simp; try with_reducible rfl)
  try simp only [Act.put, List.setIfInBounds_toArray, List.set_cons_zero, List.set_cons_succ]
  refine take_on (i := 5) (some 26) (v := ?vr6) rfl rfl (by kernel_rfl) (by kernel_rfl) (by kernel_rfl) (fun _ _ _ h => h) (by rfl) ?hyr6 (by with_reducible exact hHeld) ?restr6
  case hyr6 => (intro wS hSw; (try dsimp only at hSw); go_simp; try with_reducible rfl)
  try simp only [Act.put, List.setIfInBounds_toArray, List.set_cons_zero, List.set_cons_succ]
  refine take_on (i := 6) (some 27) (v := ?vr7) rfl rfl (by kernel_rfl) (by kernel_rfl) (by kernel_rfl) (fun _ _ _ h => h) (by rfl) ?hyr7 (by with_reducible exact hHeld) ?restr7
  case hyr7 => (intro wS hSw; (try dsimp only at hSw); go_simp; try with_reducible rfl)
  try simp only [Act.put, List.setIfInBounds_toArray, List.set_cons_zero, List.set_cons_succ]
  refine take_on (i := 7) (some 28) (v := ?vr8) rfl rfl (by kernel_rfl) (by kernel_rfl) (by kernel_rfl) (fun _ _ _ h => h) (by rfl) ?hyr8 (by with_reducible exact hHeld) ?restr8
  case hyr8 => (intro wS hSw; (try dsimp only at hSw); go_simp; try with_reducible rfl)
  try simp only [Act.put, List.setIfInBounds_toArray, List.set_cons_zero, List.set_cons_succ]
  refine take_on (i := 8) (some 8) (v := ?vr9) rfl rfl (by kernel_rfl) (by kernel_rfl) (by kernel_rfl) (fun _ _ _ h => h) (by rfl) ?hyr9 (by with_reducible exact hHeld) ?restr9
  case hyr9 => (intro wS hSw; (try dsimp only at hSw); go_simp; try with_reducible rfl)
  try simp only [Act.put, List.setIfInBounds_toArray, List.set_cons_zero, List.set_cons_succ]
  refine take_on (i := 9) (some 9) (v := ?vr10) rfl rfl (by kernel_rfl) (by kernel_rfl) (by kernel_rfl) (fun _ _ _ h => h) (by rfl) ?hyr10 (by with_reducible exact hHeld) ?restr10
  case hyr10 => (intro wS hSw; (try dsimp only at hSw); go_simp; try with_reducible rfl)
  try simp only [Act.put, List.setIfInBounds_toArray, List.set_cons_zero, List.set_cons_succ]
  refine wpAnyH_done (by kernel_rfl) ?_ _
  refine NoPanic.normal ?_
  go_wp2
  first | go_ret2 | go_ret3
  exact ⟨rfl, V', HT.out.below (Below.refl _ _).drew, HC.out.drew, HF.out⟩
set_option maxRecDepth 20000 in
set_option maxHeartbeats 8000000 in
theorem releaseM_any (base T E n : Nat) (most ex owner : Int) (V : Nat → Value) (wait : Int) (L : Nat → List Pl) (w : World) (h : TabS base w T E n 0 most wait V L) (hn : n ≤ 4096) (hb : ∀ i, i < 2 * n → (L i).length ≤ 4000000000000) (hw : 0 ≤ wait ∧ wait ≤ 1000000) (hbr : ∀ i, i < 2 * n → i % 2 = 1 → (L i).length ≤ 1000000) :
    Calls Try.prog 22 #[.pointer (some ⟨T, 0, none⟩), .int .i64 ex, .int .i64 owner] w fun e w' => ∃ A c, e = .returned (.tuple #[.slice A (relT n L wait ex owner).2.2.1.length c, .int .i64 (relT n L wait ex owner).2.2.2]) ∧ Rd encI w' A (relT n L wait ex owner).2.2.1 ∧ (∀ ad, A = some ad → w.heap.size ≤ ad.block ∧ ∃ cs, Blk w' ad.block 3 cs) ∧ ∃ V' : Nat → Value, TabS base w' T E n 0 most (relT n L wait ex owner).2.1 V' (relT n L wait ex owner).1 ∧ Chg (fun k _ => Fp T E n V k) w w' ∧ (∀ k, Fp T E n V' k → Fp T E n V k ∨ w.heap.size ≤ k) := by
  have h0 : (w.alloc (reqO T ex 0 owner)).cell? ⟨T, 0, none⟩ = some (.int .i32 0) := (h.tb.alloc _).cell 0
  have f0 := (h.tb.alloc (reqO T ex 0 owner)).frozen 0
  have S0 := start_of h ex 0 owner
  have g2 := Lib.hid (guarded_release T w.heap.size (w.alloc (reqO T ex 0 owner)) (FinP base w T E n w.heap.size most ex 0 owner false (relT n L wait ex owner).2.2.2 V (relT n L wait ex owner).2.1 (relT n L wait ex owner).1 (relT n L wait ex owner).2.2.1) h0 f0 ((release_any base T E n w.heap.size most ex 0 owner V (.slice none 0 0) wait L [] _ S0 hn hb hbr (by simp) hw).mono fun e w' hp => by
    obtain ⟨he, V', gv', hS⟩ := rel_fin hp
    exact ⟨he, fin_of h hS⟩))
  clear S0 h h0 f0
  go_enter Try.func22, Try.ntmps22
  go_wp2_with fail
  refine g2.out.mono ?_
  rintro e w2 ⟨rfl, V', gv, hT, hQ, hO, hC, hF⟩
  clear g2
  obtain ⟨Ag, cg, eg, hGg, hAg⟩ := hO
  subst eg
  have HT := Lib.hid hT
  have HQ := Lib.hid hQ
  have HG := Lib.hid hGg
  have HC := Lib.hid hC
  have HF := Lib.hid hF
  clear hT hQ hGg hC hF
  go_wp2_with fail
  refine wp_region_noPanic ?_
  refine wp_region_held_drew (S := fun w' => w'.cell? ⟨w.heap.size, 4, none⟩ = some (.slice Ag (relT n L wait ex owner).2.2.1.length cg) ∧ w'.cell? ⟨w.heap.size, 6, none⟩ = some (.int .i64 (relT n L wait ex owner).2.2.2)) (by kernel_rfl) (⟨HQ.out.cell 4, HQ.out.cell 6⟩) (fun hHeld => ?_)
  refine take_on (i := 0) (some 18) (v := ?vr11) rfl rfl (by kernel_rfl) (by kernel_rfl) (by kernel_rfl) (fun _ _ _ h => h) (by rfl) ?hyr11 (by with_reducible exact hHeld) ?restr11
  case hyr11 => (intro wS hSw; (try dsimp only at hSw); go_simp; try with_reducible rfl)
  try simp only [Act.put, List.setIfInBounds_toArray, List.set_cons_zero, List.set_cons_succ]
  refine take_on (i := 1) (some 19) (v := ?vr12) rfl rfl (by kernel_rfl) (by kernel_rfl) (by kernel_rfl) (fun _ _ _ h => h) (by rfl) ?hyr12 (by with_reducible exact hHeld) ?restr12
  case hyr12 => (intro wS hSw; (try dsimp only at hSw); go_simp; try with_reducible rfl)
  try simp only [Act.put, List.setIfInBounds_toArray, List.set_cons_zero, List.set_cons_succ]
  refine take_on (i := 2) (some 20) (v := ?vr13) rfl rfl (by kernel_rfl) (by kernel_rfl) (by kernel_rfl) (fun _ _ _ h => h) (by rfl) ?hyr13 (by with_reducible exact hHeld) ?restr13
  case hyr13 => (intro wS hSw; (try dsimp only at hSw); go_simp; try with_reducible rfl)
  try simp only [Act.put, List.setIfInBounds_toArray, List.set_cons_zero, List.set_cons_succ]
  refine take_on (i := 3) (some 21) (v := ?vr14) rfl rfl (by kernel_rfl) (by kernel_rfl) (by kernel_rfl) (fun _ _ _ h => h) (by rfl) ?hyr14 (by with_reducible exact hHeld) ?restr14
  case hyr14 => (intro wS hSw; (try dsimp only at hSw); go_simp; try with_reducible rfl)
  try simp only [Act.put, List.setIfInBounds_toArray, List.set_cons_zero, List.set_cons_succ]
  refine take_on (i := 4) (some 22) (v := ?vr15) rfl rfl (by kernel_rfl) (by kernel_rfl) (by kernel_rfl) (fun _ _ _ h => h) (by rfl) ?hyr15 (by with_reducible exact hHeld) ?restr15
  case hyr15 => (intro wS hSw; (try dsimp only at hSw); go_simp; try with_reducible rfl)
  try simp only [Act.put, List.setIfInBounds_toArray, List.set_cons_zero, List.set_cons_succ]
  refine take_on (i := 5) (some 23) (v := ?vr16) rfl rfl (by kernel_rfl) (by kernel_rfl) (by kernel_rfl) (fun _ _ _ h => h) (by rfl) ?hyr16 (by with_reducible exact hHeld) ?restr16
  case hyr16 => (intro wS hSw; (try dsimp only at hSw); go_simp; try with_reducible rfl)
  try simp only [Act.put, List.setIfInBounds_toArray, List.set_cons_zero, List.set_cons_succ]
  refine take_on (i := 6) (some 24) (v := ?vr17) rfl rfl (by kernel_rfl) (by kernel_rfl) (by kernel_rfl) (fun _ _ _ h => h) (by rfl) ?hyr17 (by with_reducible exact hHeld) ?restr17
  case hyr17 => (intro wS hSw; (try dsimp only at hSw); go_simp; try with_reducible rfl)
  try simp only [Act.put, List.setIfInBounds_toArray, List.set_cons_zero, List.set_cons_succ]
  refine take_on (i := 7) (some 25) (v := ?vr18) rfl rfl (by kernel_rfl) (by kernel_rfl) (by kernel_rfl) (fun _ _ _ h => h) (by rfl) ?hyr18 (by with_reducible exact hHeld) ?restr18
  case hyr18 => (intro wS hSw; (try dsimp only at hSw); go_simp; try with_reducible rfl)
  try simp only [Act.put, List.setIfInBounds_toArray, List.set_cons_zero, List.set_cons_succ]
  refine take_on (i := 8) (some 6) (v := ?vr19) rfl rfl (by kernel_rfl) (by kernel_rfl) (by kernel_rfl) (fun _ _ _ h => h) (by rfl) ?hyr19 (by with_reducible exact hHeld) ?restr19
  case hyr19 => (intro wS hSw; (try dsimp only at hSw); go_simp; try with_reducible rfl)
  try simp only [Act.put, List.setIfInBounds_toArray, List.set_cons_zero, List.set_cons_succ]
  refine take_on (i := 9) (some 7) (v := ?vr20) rfl rfl (by kernel_rfl) (by kernel_rfl) (by kernel_rfl) (fun _ _ _ h => h) (by rfl) ?hyr20 (by with_reducible exact hHeld) ?restr20
  case hyr20 => (intro wS hSw; (try dsimp only at hSw); go_simp; try with_reducible rfl)
  try simp only [Act.put, List.setIfInBounds_toArray, List.set_cons_zero, List.set_cons_succ]
  refine wpAnyH_done (by kernel_rfl) ?_ _
  refine NoPanic.normal ?_
  go_wp2
  first | go_ret2 | go_ret3
  refine ⟨Ag, cg, rfl, ?_, ?_, V', HT.out.below (Below.refl _ _).drew, HC.out.drew, HF.out⟩
  · exact rd_of_g (HG.out.chg (Chg.of_below (fun _ _ => False) (Below.refl _ _).drew) enc1_len fun _ _ _ h => h)
  · intro ad e
    rcases hAg with h | ⟨g, h, hb⟩
    · rw [h] at e; cases e
    · rw [h] at e; cases e
      rcases HG.out with ⟨h2, _⟩ | ⟨g2, o2, cs2, h2, _, _, h3, _⟩
      · rw [h] at h2; cases h2
      · rw [h] at h2; cases h2; exact ⟨hb, cs2, h3⟩
set_option maxRecDepth 20000 in
set_option maxHeartbeats 8000000 in
theorem holdersM_any (base T E n : Nat) (most ex : Int) (V : Nat → Value) (wait : Int) (L : Nat → List Pl) (w : World) (h : TabS base w T E n 0 most wait V L) (hn : n ≤ 4096) (hb : ∀ i, i < 2 * n → (L i).length ≤ 4000000000000) (hw : 0 ≤ wait ∧ wait ≤ 1000000) :
    Calls Try.prog 16 #[.pointer (some ⟨T, 0, none⟩), .int .i64 ex] w fun e w' => ∃ A c, e = .returned (.tuple #[.slice A (listT n L ex 0).1.length c, .int .i64 (listT n L ex 0).2.1, .int .i64 (listT n L ex 0).2.2]) ∧ Rd encI w' A (listT n L ex 0).1 ∧ (∀ ad, A = some ad → w.heap.size ≤ ad.block ∧ ∃ cs, Blk w' ad.block 3 cs) ∧ ∃ V' : Nat → Value, TabS base w' T E n 0 most wait V' L ∧ Chg (fun k _ => Fp T E n V k) w w' ∧ (∀ k, Fp T E n V' k → Fp T E n V k ∨ w.heap.size ≤ k) := by
  have h0 : (w.alloc (reqO T ex 0 0)).cell? ⟨T, 0, none⟩ = some (.int .i32 0) := (h.tb.alloc _).cell 0
  have f0 := (h.tb.alloc (reqO T ex 0 0)).frozen 0
  have S0 := start_of h ex 0 0
  have g2 := Lib.hid (guarded_list T w.heap.size (w.alloc (reqO T ex 0 0)) (FinP base w T E n w.heap.size most ex (listT n L ex 0).2.1 0 false (listT n L ex 0).2.2 V wait L (listT n L ex 0).1) h0 f0 ((list_any base T E n w.heap.size most ex 0 0 V (.slice none 0 0) wait L [] _ S0 hn hb).mono fun e w' hp => by
    obtain ⟨he, gv', hS⟩ := list_fin hp
    exact ⟨he, fin_of h hS⟩))
  clear S0 h h0 f0
  go_enter Try.func16, Try.ntmps16
  go_wp2_with fail
  refine g2.out.mono ?_
  rintro e w2 ⟨rfl, V', gv, hT, hQ, hO, hC, hF⟩
  clear g2
  obtain ⟨Ag, cg, eg, hGg, hAg⟩ := hO
  subst eg
  have HT := Lib.hid hT
  have HQ := Lib.hid hQ
  have HG := Lib.hid hGg
  have HC := Lib.hid hC
  have HF := Lib.hid hF
  clear hT hQ hGg hC hF
  go_wp2_with fail
  refine wp_region_noPanic ?_
  refine wp_region_held_drew (S := fun w' => w'.cell? ⟨w.heap.size, 4, none⟩ = some (.slice Ag (listT n L ex 0).1.length cg) ∧ w'.cell? ⟨w.heap.size, 2, none⟩ = some (.int .i64 (listT n L ex 0).2.1) ∧ w'.cell? ⟨w.heap.size, 6, none⟩ = some (.int .i64 (listT n L ex 0).2.2)) (by kernel_rfl) (⟨HQ.out.cell 4, HQ.out.cell 2, HQ.out.cell 6⟩) (fun hHeld => ?_)
  refine take_on (i := 0) (some 16) (v := ?vr21) rfl rfl (by kernel_rfl) (by kernel_rfl) (by kernel_rfl) (fun _ _ _ h => h) (by rfl) ?hyr21 (by with_reducible exact hHeld) ?restr21
  case hyr21 => (intro wS hSw; (try dsimp only at hSw); go_simp; try with_reducible rfl)
  try simp only [Act.put, List.setIfInBounds_toArray, List.set_cons_zero, List.set_cons_succ]
  refine take_on (i := 1) (some 17) (v := ?vr22) rfl rfl (by kernel_rfl) (by kernel_rfl) (by kernel_rfl) (fun _ _ _ h => h) (by rfl) ?hyr22 (by with_reducible exact hHeld) ?restr22
  case hyr22 => (intro wS hSw; (try dsimp only at hSw); go_simp; try with_reducible rfl)
  try simp only [Act.put, List.setIfInBounds_toArray, List.set_cons_zero, List.set_cons_succ]
  refine take_on (i := 2) (some 18) (v := ?vr23) rfl rfl (by kernel_rfl) (by kernel_rfl) (by kernel_rfl) (fun _ _ _ h => h) (by rfl) ?hyr23 (by with_reducible exact hHeld) ?restr23
  case hyr23 => (intro wS hSw; (try dsimp only at hSw); go_simp; try with_reducible rfl)
  try simp only [Act.put, List.setIfInBounds_toArray, List.set_cons_zero, List.set_cons_succ]
  refine take_on (i := 3) (some 19) (v := ?vr24) rfl rfl (by kernel_rfl) (by kernel_rfl) (by kernel_rfl) (fun _ _ _ h => h) (by rfl) ?hyr24 (by with_reducible exact hHeld) ?restr24
  case hyr24 => (intro wS hSw; (try dsimp only at hSw); go_simp; try with_reducible rfl)
  try simp only [Act.put, List.setIfInBounds_toArray, List.set_cons_zero, List.set_cons_succ]
  refine take_on (i := 4) (some 20) (v := ?vr25) rfl rfl (by kernel_rfl) (by kernel_rfl) (by kernel_rfl) (fun _ _ _ h => h) (by rfl) ?hyr25 (by with_reducible exact hHeld) ?restr25
  case hyr25 => (intro wS hSw; (try dsimp only at hSw); go_simp; try with_reducible rfl)
  try simp only [Act.put, List.setIfInBounds_toArray, List.set_cons_zero, List.set_cons_succ]
  refine take_on (i := 5) (some 21) (v := ?vr26) rfl rfl (by kernel_rfl) (by kernel_rfl) (by kernel_rfl) (fun _ _ _ h => h) (by rfl) ?hyr26 (by with_reducible exact hHeld) ?restr26
  case hyr26 => (intro wS hSw; (try dsimp only at hSw); go_simp; try with_reducible rfl)
  try simp only [Act.put, List.setIfInBounds_toArray, List.set_cons_zero, List.set_cons_succ]
  refine take_on (i := 6) (some 22) (v := ?vr27) rfl rfl (by kernel_rfl) (by kernel_rfl) (by kernel_rfl) (fun _ _ _ h => h) (by rfl) ?hyr27 (by with_reducible exact hHeld) ?restr27
  case hyr27 => (intro wS hSw; (try dsimp only at hSw); go_simp; try with_reducible rfl)
  try simp only [Act.put, List.setIfInBounds_toArray, List.set_cons_zero, List.set_cons_succ]
  refine take_on (i := 7) (some 23) (v := ?vr28) rfl rfl (by kernel_rfl) (by kernel_rfl) (by kernel_rfl) (fun _ _ _ h => h) (by rfl) ?hyr28 (by with_reducible exact hHeld) ?restr28
  case hyr28 => (intro wS hSw; (try dsimp only at hSw); go_simp; try with_reducible rfl)
  try simp only [Act.put, List.setIfInBounds_toArray, List.set_cons_zero, List.set_cons_succ]
  refine take_on (i := 8) (some 24) (v := ?vr29) rfl rfl (by kernel_rfl) (by kernel_rfl) (by kernel_rfl) (fun _ _ _ h => h) (by rfl) ?hyr29 (by with_reducible exact hHeld) ?restr29
  case hyr29 => (intro wS hSw; (try dsimp only at hSw); go_simp; try with_reducible rfl)
  try simp only [Act.put, List.setIfInBounds_toArray, List.set_cons_zero, List.set_cons_succ]
  refine take_on (i := 9) (some 25) (v := ?vr30) rfl rfl (by kernel_rfl) (by kernel_rfl) (by kernel_rfl) (fun _ _ _ h => h) (by rfl) ?hyr30 (by with_reducible exact hHeld) ?restr30
  case hyr30 => (intro wS hSw; (try dsimp only at hSw); go_simp; try with_reducible rfl)
  try simp only [Act.put, List.setIfInBounds_toArray, List.set_cons_zero, List.set_cons_succ]
  refine take_on (i := 10) (some 26) (v := ?vr31) rfl rfl (by kernel_rfl) (by kernel_rfl) (by kernel_rfl) (fun _ _ _ h => h) (by rfl) ?hyr31 (by with_reducible exact hHeld) ?restr31
  case hyr31 => (intro wS hSw; (try dsimp only at hSw); go_simp; try with_reducible rfl)
  try simp only [Act.put, List.setIfInBounds_toArray, List.set_cons_zero, List.set_cons_succ]
  refine take_on (i := 11) (some 27) (v := ?vr32) rfl rfl (by kernel_rfl) (by kernel_rfl) (by kernel_rfl) (fun _ _ _ h => h) (by rfl) ?hyr32 (by with_reducible exact hHeld) ?restr32
  case hyr32 => (intro wS hSw; (try dsimp only at hSw); go_simp; try with_reducible rfl)
  try simp only [Act.put, List.setIfInBounds_toArray, List.set_cons_zero, List.set_cons_succ]
  refine take_on (i := 12) (some 4) (v := ?vr33) rfl rfl (by kernel_rfl) (by kernel_rfl) (by kernel_rfl) (fun _ _ _ h => h) (by rfl) ?hyr33 (by with_reducible exact hHeld) ?restr33
  case hyr33 => (intro wS hSw; (try dsimp only at hSw); go_simp; try with_reducible rfl)
  try simp only [Act.put, List.setIfInBounds_toArray, List.set_cons_zero, List.set_cons_succ]
  refine take_on (i := 13) (some 5) (v := ?vr34) rfl rfl (by kernel_rfl) (by kernel_rfl) (by kernel_rfl) (fun _ _ _ h => h) (by rfl) ?hyr34 (by with_reducible exact hHeld) ?restr34
  case hyr34 => (intro wS hSw; (try dsimp only at hSw); go_simp; try with_reducible rfl)
  try simp only [Act.put, List.setIfInBounds_toArray, List.set_cons_zero, List.set_cons_succ]
  refine take_on (i := 14) (some 6) (v := ?vr35) rfl rfl (by kernel_rfl) (by kernel_rfl) (by kernel_rfl) (fun _ _ _ h => h) (by rfl) ?hyr35 (by with_reducible exact hHeld) ?restr35
  case hyr35 => (intro wS hSw; (try dsimp only at hSw); go_simp; try with_reducible rfl)
  try simp only [Act.put, List.setIfInBounds_toArray, List.set_cons_zero, List.set_cons_succ]
  refine wpAnyH_done (by kernel_rfl) ?_ _
  refine NoPanic.normal ?_
  go_wp2
  first | go_ret2 | go_ret3
  refine ⟨Ag, cg, rfl, ?_, ?_, V', HT.out.below (Below.refl _ _).drew, HC.out.drew, HF.out⟩
  · exact rd_of_g (HG.out.chg (Chg.of_below (fun _ _ => False) (Below.refl _ _).drew) enc1_len fun _ _ _ h => h)
  · intro ad e
    rcases hAg with h | ⟨g, h, hb⟩
    · rw [h] at e; cases e
    · rw [h] at e; cases e
      rcases HG.out with ⟨h2, _⟩ | ⟨g2, o2, cs2, h2, _, _, h3, _⟩
      · rw [h] at h2; cases h2
      · rw [h] at h2; cases h2; exact ⟨hb, cs2, h3⟩
set_option maxRecDepth 20000 in
set_option maxHeartbeats 8000000 in
theorem waitersM_any (base T E n : Nat) (most ex : Int) (V : Nat → Value) (wait : Int) (L : Nat → List Pl) (w : World) (h : TabS base w T E n 0 most wait V L) (hn : n ≤ 4096) (hb : ∀ i, i < 2 * n → (L i).length ≤ 4000000000000) (hw : 0 ≤ wait ∧ wait ≤ 1000000) :
    Calls Try.prog 17 #[.pointer (some ⟨T, 0, none⟩), .int .i64 ex] w fun e w' => ∃ A c, e = .returned (.tuple #[.slice A (listT n L ex 1).1.length c, .int .i64 (listT n L ex 1).2.2]) ∧ Rd encI w' A (listT n L ex 1).1 ∧ (∀ ad, A = some ad → w.heap.size ≤ ad.block ∧ ∃ cs, Blk w' ad.block 3 cs) ∧ ∃ V' : Nat → Value, TabS base w' T E n 0 most wait V' L ∧ Chg (fun k _ => Fp T E n V k) w w' ∧ (∀ k, Fp T E n V' k → Fp T E n V k ∨ w.heap.size ≤ k) := by
  have h0 : (w.alloc (reqO T ex 1 0)).cell? ⟨T, 0, none⟩ = some (.int .i32 0) := (h.tb.alloc _).cell 0
  have f0 := (h.tb.alloc (reqO T ex 1 0)).frozen 0
  have S0 := start_of h ex 1 0
  have g2 := Lib.hid (guarded_list T w.heap.size (w.alloc (reqO T ex 1 0)) (FinP base w T E n w.heap.size most ex (listT n L ex 1).2.1 0 false (listT n L ex 1).2.2 V wait L (listT n L ex 1).1) h0 f0 ((list_any base T E n w.heap.size most ex 1 0 V (.slice none 0 0) wait L [] _ S0 hn hb).mono fun e w' hp => by
    obtain ⟨he, gv', hS⟩ := list_fin hp
    exact ⟨he, fin_of h hS⟩))
  clear S0 h h0 f0
  go_enter Try.func17, Try.ntmps17
  go_wp2_with fail
  refine g2.out.mono ?_
  rintro e w2 ⟨rfl, V', gv, hT, hQ, hO, hC, hF⟩
  clear g2
  obtain ⟨Ag, cg, eg, hGg, hAg⟩ := hO
  subst eg
  have HT := Lib.hid hT
  have HQ := Lib.hid hQ
  have HG := Lib.hid hGg
  have HC := Lib.hid hC
  have HF := Lib.hid hF
  clear hT hQ hGg hC hF
  go_wp2_with fail
  refine wp_region_noPanic ?_
  refine wp_region_held_drew (S := fun w' => w'.cell? ⟨w.heap.size, 4, none⟩ = some (.slice Ag (listT n L ex 1).1.length cg) ∧ w'.cell? ⟨w.heap.size, 6, none⟩ = some (.int .i64 (listT n L ex 1).2.2)) (by kernel_rfl) (⟨HQ.out.cell 4, HQ.out.cell 6⟩) (fun hHeld => ?_)
  refine take_on (i := 0) (some 15) (v := ?vr36) rfl rfl (by kernel_rfl) (by kernel_rfl) (by kernel_rfl) (fun _ _ _ h => h) (by rfl) ?hyr36 (by with_reducible exact hHeld) ?restr36
  case hyr36 => (intro wS hSw; (try dsimp only at hSw); go_simp; try with_reducible rfl)
  try simp only [Act.put, List.setIfInBounds_toArray, List.set_cons_zero, List.set_cons_succ]
  refine take_on (i := 1) (some 16) (v := ?vr37) rfl rfl (by kernel_rfl) (by kernel_rfl) (by kernel_rfl) (fun _ _ _ h => h) (by rfl) ?hyr37 (by with_reducible exact hHeld) ?restr37
  case hyr37 => (intro wS hSw; (try dsimp only at hSw); go_simp; try with_reducible rfl)
  try simp only [Act.put, List.setIfInBounds_toArray, List.set_cons_zero, List.set_cons_succ]
  refine take_on (i := 2) (some 17) (v := ?vr38) rfl rfl (by kernel_rfl) (by kernel_rfl) (by kernel_rfl) (fun _ _ _ h => h) (by rfl) ?hyr38 (by with_reducible exact hHeld) ?restr38
  case hyr38 => (intro wS hSw; (try dsimp only at hSw); go_simp; try with_reducible rfl)
  try simp only [Act.put, List.setIfInBounds_toArray, List.set_cons_zero, List.set_cons_succ]
  refine take_on (i := 3) (some 18) (v := ?vr39) rfl rfl (by kernel_rfl) (by kernel_rfl) (by kernel_rfl) (fun _ _ _ h => h) (by rfl) ?hyr39 (by with_reducible exact hHeld) ?restr39
  case hyr39 => (intro wS hSw; (try dsimp only at hSw); go_simp; try with_reducible rfl)
  try simp only [Act.put, List.setIfInBounds_toArray, List.set_cons_zero, List.set_cons_succ]
  refine take_on (i := 4) (some 19) (v := ?vr40) rfl rfl (by kernel_rfl) (by kernel_rfl) (by kernel_rfl) (fun _ _ _ h => h) (by rfl) ?hyr40 (by with_reducible exact hHeld) ?restr40
  case hyr40 => (intro wS hSw; (try dsimp only at hSw); go_simp; try with_reducible rfl)
  try simp only [Act.put, List.setIfInBounds_toArray, List.set_cons_zero, List.set_cons_succ]
  refine take_on (i := 5) (some 20) (v := ?vr41) rfl rfl (by kernel_rfl) (by kernel_rfl) (by kernel_rfl) (fun _ _ _ h => h) (by rfl) ?hyr41 (by with_reducible exact hHeld) ?restr41
  case hyr41 => (intro wS hSw; (try dsimp only at hSw); go_simp; try with_reducible rfl)
  try simp only [Act.put, List.setIfInBounds_toArray, List.set_cons_zero, List.set_cons_succ]
  refine take_on (i := 6) (some 21) (v := ?vr42) rfl rfl (by kernel_rfl) (by kernel_rfl) (by kernel_rfl) (fun _ _ _ h => h) (by rfl) ?hyr42 (by with_reducible exact hHeld) ?restr42
  case hyr42 => (intro wS hSw; (try dsimp only at hSw); go_simp; try with_reducible rfl)
  try simp only [Act.put, List.setIfInBounds_toArray, List.set_cons_zero, List.set_cons_succ]
  refine take_on (i := 7) (some 22) (v := ?vr43) rfl rfl (by kernel_rfl) (by kernel_rfl) (by kernel_rfl) (fun _ _ _ h => h) (by rfl) ?hyr43 (by with_reducible exact hHeld) ?restr43
  case hyr43 => (intro wS hSw; (try dsimp only at hSw); go_simp; try with_reducible rfl)
  try simp only [Act.put, List.setIfInBounds_toArray, List.set_cons_zero, List.set_cons_succ]
  refine take_on (i := 8) (some 4) (v := ?vr44) rfl rfl (by kernel_rfl) (by kernel_rfl) (by kernel_rfl) (fun _ _ _ h => h) (by rfl) ?hyr44 (by with_reducible exact hHeld) ?restr44
  case hyr44 => (intro wS hSw; (try dsimp only at hSw); go_simp; try with_reducible rfl)
  try simp only [Act.put, List.setIfInBounds_toArray, List.set_cons_zero, List.set_cons_succ]
  refine take_on (i := 9) (some 5) (v := ?vr45) rfl rfl (by kernel_rfl) (by kernel_rfl) (by kernel_rfl) (fun _ _ _ h => h) (by rfl) ?hyr45 (by with_reducible exact hHeld) ?restr45
  case hyr45 => (intro wS hSw; (try dsimp only at hSw); go_simp; try with_reducible rfl)
  try simp only [Act.put, List.setIfInBounds_toArray, List.set_cons_zero, List.set_cons_succ]
  refine wpAnyH_done (by kernel_rfl) ?_ _
  refine NoPanic.normal ?_
  go_wp2
  first | go_ret2 | go_ret3
  refine ⟨Ag, cg, rfl, ?_, ?_, V', HT.out.below (Below.refl _ _).drew, HC.out.drew, HF.out⟩
  · exact rd_of_g (HG.out.chg (Chg.of_below (fun _ _ => False) (Below.refl _ _).drew) enc1_len fun _ _ _ h => h)
  · intro ad e
    rcases hAg with h | ⟨g, h, hb⟩
    · rw [h] at e; cases e
    · rw [h] at e; cases e
      rcases HG.out with ⟨h2, _⟩ | ⟨g2, o2, cs2, h2, _, _, h3, _⟩
      · rw [h] at h2; cases h2
      · rw [h] at h2; cases h2; exact ⟨hb, cs2, h3⟩
end Go.Proofs.Ytkjbjfjgnponfaa
