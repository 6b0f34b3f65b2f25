/- Package locks: Drop, Holds, Waiting, by contract. -/
import Derived.Test.YtkjbjfjgnponfaaLkQ
import Derived.Conc.MuLone
namespace Go.Proofs.Ytkjbjfjgnponfaa
open Go.RowKit Go.MuLone
set_option linter.unusedSimpArgs false
set_option linter.unusedVariables false
/-- Drop at the first k extents: the lists, how many wait, who comes in -/
def dropN (n : Nat) (o : Int) : Nat → (Nat → List Pl) → Int → (Nat → List Pl) × Int × List Int
  | 0, L, wait => (L, wait, [])
  | k + 1, L, wait => ((relT n (dropN n o k L wait).1 (dropN n o k L wait).2.1 (k : Int) o).1, (relT n (dropN n o k L wait).1 (dropN n o k L wait).2.1 (k : Int) o).2.1, (dropN n o k L wait).2.2 ++ (relT n (dropN n o k L wait).1 (dropN n o k L wait).2.1 (k : Int) o).2.2.1)
theorem relT_at {n k : Nat} {L : Nat → List Pl} {wait o : Int} (hk : k < n) : relT n L wait (k : Int) o = match leaveL (L (k * 2)) (L (k * 2 + 1)) o with
    | none => (L, wait, [], 92)
    | some q => (upd (upd L (k * 2) q.1) (k * 2 + 1) q.2.1, wait - (q.2.2.2 : Int) - (q.2.2.1.length : Int), q.2.2.1, 0) := by
  unfold relT
  rw [if_neg (show ¬ ¬ (0 ≤ (k : Int) ∧ (k : Int) < (n : Int)) by omega), Int.toNat_natCast]
  cases leaveL (L (k * 2)) (L (k * 2 + 1)) o <;> rfl
theorem row_sum : ∀ {n : Nat} {L : Nat → List Pl} {x : Nat}, x < n → (L (x * 2 + 1)).length ≤ rowSum n L
  | 0, _, _, h => by omega
  | n + 1, L, x, h => by
    rw [rowSum]
    rcases Nat.lt_or_ge x n with h1 | h1
    · have := row_sum (L := L) h1; omega
    · obtain rfl : x = n := by omega
      omega
theorem Inv.row {n i : Nat} {L : Nat → List Pl} {wait : Int} (h : Inv n i L wait) : ∀ j, j < 2 * n → j % 2 = 1 → ((L j).length : Int) ≤ wait := fun j hj h1 => by
  have h2 := row_sum (n := n) (L := L) (x := j / 2) (by omega)
  rw [show j / 2 * 2 + 1 = j by omega] at h2
  have := h.sum
  omega
theorem rel_wait {n : Nat} {L : Nat → List Pl} {wait ex o : Int} : (relT n L wait ex o).2.1 + ((relT n L wait ex o).2.2.1.length : Int) ≤ wait := by
  unfold relT
  split
  · simp
  · split
    · simp
    · dsimp only; omega
theorem drop_inv {n i : Nat} {L : Nat → List Pl} {wait o : Int} (h : Inv n i L wait) : ∀ k, Inv n i (dropN n o k L wait).1 (dropN n o k L wait).2.1 ∧ (dropN n o k L wait).2.1 + ((dropN n o k L wait).2.2.length : Int) ≤ wait
  | 0 => ⟨h, by simp [dropN]⟩
  | k + 1 => by
    obtain ⟨h1, h2⟩ := drop_inv h k
    refine ⟨rel_inv h1, ?_⟩
    have h3 := rel_wait (n := n) (L := (dropN n o k L wait).1) (wait := (dropN n o k L wait).2.1) (ex := (k : Int)) (o := o)
    rw [dropN]
    dsimp only
    rw [List.length_append]
    omega
def DropPost (base : Nat) (w : World) (T E n Q : Nat) (most ex mode owner : Int) (V : Nat → Value) (wait : Int) (L : Nat → List Pl) (e : Ending) (w' : World) : Prop :=
  e = .returned (.tuple #[]) ∧ ∃ V' gv', LvS base w w' T E n Q most ex mode owner false 0 V (.slice none 0 0) (dropN n owner n L wait).2.1 V' (dropN n owner n L wait).1 gv' (dropN n owner n L wait).2.2
set_option maxHeartbeats 4000000 in
theorem drop_any (base T E n Q i : Nat) (most ex mode owner : Int) (V : Nat → Value) (wait : Int) (L : Nat → List Pl) (w : World) (hS : LvS base w w T E n Q most ex mode owner false 0 V (.slice none 0 0) wait V L (.slice none 0 0) [])
    (hn : n ≤ 4096) (hI : Inv n i L wait) (hi : i ≤ 4000000000000) (hw : wait ≤ 1000000) :
    Calls Try.prog 37 #[.pointer (some ⟨Q, 0, none⟩)] w (DropPost base w T E n Q most ex mode owner V wait L) := by
  have HI := Lib.hid hI
  have HS := Lib.hid hS
  have q0 : w.cell? ⟨Q, 0, none⟩ = some (.pointer (some ⟨T, 0, none⟩)) := hS.req.cell 0
  have t2 : w.cell? ⟨T, 2, none⟩ = some (.slice (some ⟨E, 0, none⟩) n n) := hS.tab.tb.cell 2
  clear hI hS
  go_enter Try.func37, Try.ntmps37
  go_wp2_with fail
  go_loopw [11] (fun t11 wr => ∃ (k : Nat) (V' : Nat → Value) (gv' : Value), k ≤ n ∧ t11 = .int .i64 (k : Int) ∧ Hid (LvS base w wr T E n Q most ex mode owner false 0 V (.slice none 0 0) (dropN n owner k L wait).2.1 V' (dropN n owner k L wait).1 gv' (dropN n owner k L wait).2.2)) (fun t11 _ => n - (intOf t11).toNat)
  case atStart => exact ⟨0, V, _, Nat.zero_le _, rfl, HS⟩
  case round =>
    clear q0 t2 HS
    obtain ⟨k, V1, gv1, hk, rfl, h1⟩ := hrel
    by_cases hlk : k < n
    · have hlk' : (k : Int) < (n : Int) := by omega
      obtain ⟨d1, d2⟩ := drop_inv (o := owner) HI.out k
      have e1 : dropN n owner (k + 1) L wait = ((relT n (dropN n owner k L wait).1 (dropN n owner k L wait).2.1 (k : Int) owner).1, (relT n (dropN n owner k L wait).1 (dropN n owner k L wait).2.1 (k : Int) owner).2.1, (dropN n owner k L wait).2.2 ++ (relT n (dropN n owner k L wait).1 (dropN n owner k L wait).2.1 (k : Int) owner).2.2.1) := rfl
      have E1 := Lib.hid e1
      clear e1
      obtain ⟨D, hD⟩ : ∃ D, D = dropN n owner k L wait := ⟨_, rfl⟩
      rw [← hD] at h1 d1 d2 E1
      have b1 := d1.lens (k * 2) (by omega)
      have b2 := d1.lens (k * 2 + 1) (by omega)
      have b3 := d1.row (k * 2 + 1) (by omega) (by omega)
      have b4 := d1.waits
      have gl := leave_any base T E n Q k most ex mode owner false 0 V1 gv1 D.2.1 D.1 D.2.2 wr hlk h1.out.fresh (by omega) (by omega) (by omega) (by omega)
      have q0 : wr.cell? ⟨Q, 0, none⟩ = some (.pointer (some ⟨T, 0, none⟩)) := h1.out.req.cell 0
      have t2 : wr.cell? ⟨T, 2, none⟩ = some (.slice (some ⟨E, 0, none⟩) n n) := h1.out.tab.tb.cell 2
      have RA := Lib.hid (relT_at (L := D.1) (wait := D.2.1) (o := owner) hlk)
      clear hD d1 d2 b1 b2 b3 b4
      cases hl : leaveL (D.1 (k * 2)) (D.1 (k * 2 + 1)) owner with
      | none =>
        have g2 := Lib.hid (gl.mono (R' := fun e w' => e = .returned (.bool false) ∧ Below wr.heap.size wr w') fun e w' hp => by unfold LvPost at hp; rw [hl] at hp; exact hp)
        rw [hl] at RA
        clear gl hl
        go_wp2_with fail
        refine g2.out.mono ?_
        rintro e w1 ⟨rfl, hB⟩
        have H1 := Lib.hid (h1.out.below hB)
        clear g2 hB
        go_wp2
        go_roundw
        case rel => exact ⟨k + 1, V1, gv1, by omega, by go_num, by rw [E1.out, RA.out]; dsimp only; rw [List.append_nil]; exact H1⟩
        case measure => simp [intOf]; omega
      | some q =>
        have g2 := Lib.hid (gl.mono (R' := fun e w' => e = .returned (.bool true) ∧ ∃ V' gv', LvS base wr w' T E n Q most ex mode owner false 0 V1 gv1 (D.2.1 - (q.2.2.2 : Int) - (q.2.2.1.length : Int)) V' (upd (upd D.1 (k * 2) q.1) (k * 2 + 1) q.2.1) gv' (D.2.2 ++ q.2.2.1)) fun e w' hp => by unfold LvPost at hp; rw [hl] at hp; exact hp)
        rw [hl] at RA
        clear gl hl
        go_wp2_with fail
        refine g2.out.mono ?_
        rintro e w1 ⟨rfl, V2, gv2, hS2⟩
        have H1 := Lib.hid (h1.out.comp hS2)
        clear g2 hS2
        go_wp2
        go_roundw
        case rel => exact ⟨k + 1, V2, gv2, by omega, by go_num, by rw [E1.out, RA.out]; exact H1⟩
        case measure => simp [intOf]; omega
    · obtain rfl : k = n := by omega
      go_wp2
      go_end0
      exact ⟨rfl, V1, gv1, h1.out⟩
theorem guarded_drop (T Q : Nat) (w : World) (Post : World → Prop) (h0 : w.cell? ⟨T, 0, none⟩ = some (.int .i32 0)) (f0 : w.frozen? ⟨T, 0, none⟩ = false)
    (hcall : Calls Try.prog 37 #[.pointer (some ⟨Q, 0, none⟩)] (w.setCell ⟨T, 0, none⟩ (.int .i32 1)) fun e w' => e = .returned (.tuple #[]) ∧ w'.cell? ⟨T, 0, none⟩ = some (.int .i32 1) ∧ w'.frozen? ⟨T, 0, none⟩ = false ∧ Post (w'.setCell ⟨T, 0, none⟩ (.int .i32 0))) :
    Calls Try.prog 33 #[.pointer (some ⟨T, 0, none⟩), .func (.func 37) #[.pointer (some ⟨Q, 0, none⟩)] #[]] w fun e w' => e = .returned (.tuple #[]) ∧ Post w' := by
  have HC := Lib.hid hcall
  clear hcall
  go_enter_defers Try.func33, Try.ntmps33
  go_wp2_with (go_at_call 50; refine (lock_free muLib ⟨T, 0, none⟩ _ h0 f0).mono ?_; rintro e w' ⟨rfl, rfl⟩)
  refine HC.out.mono ?_
  rintro e w1 ⟨rfl, h1, f1, hP⟩
  have HP := Lib.hid hP
  clear hP
  go_wp2_with fail
  refine leaves_cons (f := 51) (args := #[.pointer (some ⟨T, 0, none⟩)]) (by simp) (by simp [go_sem]) ?_
  refine (unlock_deferred muLib ⟨T, 0, none⟩ .returning _ h1 f1).mono ?_
  rintro e u' w'' ⟨rfl, rfl, rfl⟩
  exact ⟨_, results_none rfl _ _ _, rfl, HP.out⟩
theorem guarded_holds (T Q : Nat) (w : World) (Post : World → Prop) (h0 : w.cell? ⟨T, 0, none⟩ = some (.int .i32 0)) (f0 : w.frozen? ⟨T, 0, none⟩ = false)
    (hcall : Calls Try.prog 61 #[.pointer (some ⟨Q, 0, none⟩)] (w.setCell ⟨T, 0, none⟩ (.int .i32 1)) fun e w' => e = .returned (.tuple #[]) ∧ w'.cell? ⟨T, 0, none⟩ = some (.int .i32 1) ∧ w'.frozen? ⟨T, 0, none⟩ = false ∧ Post (w'.setCell ⟨T, 0, none⟩ (.int .i32 0))) :
    Calls Try.prog 33 #[.pointer (some ⟨T, 0, none⟩), .func (.func 61) #[.pointer (some ⟨Q, 0, none⟩)] #[]] w fun e w' => e = .returned (.tuple #[]) ∧ Post w' := by
  have HC := Lib.hid hcall
  clear hcall
  go_enter_defers Try.func33, Try.ntmps33
  go_wp2_with (go_at_call 50; refine (lock_free muLib ⟨T, 0, none⟩ _ h0 f0).mono ?_; rintro e w' ⟨rfl, rfl⟩)
  refine HC.out.mono ?_
  rintro e w1 ⟨rfl, h1, f1, hP⟩
  have HP := Lib.hid hP
  clear hP
  go_wp2_with fail
  refine leaves_cons (f := 51) (args := #[.pointer (some ⟨T, 0, none⟩)]) (by simp) (by simp [go_sem]) ?_
  refine (unlock_deferred muLib ⟨T, 0, none⟩ .returning _ h1 f1).mono ?_
  rintro e u' w'' ⟨rfl, rfl, rfl⟩
  exact ⟨_, results_none rfl _ _ _, rfl, HP.out⟩
theorem guarded_waiting (T B C : Nat) (w : World) (Post : World → Prop) (h0 : w.cell? ⟨T, 0, none⟩ = some (.int .i32 0)) (f0 : w.frozen? ⟨T, 0, none⟩ = false)
    (hcall : Calls Try.prog 38 #[.pointer (some ⟨B, 0, none⟩), .pointer (some ⟨C, 0, none⟩)] (w.setCell ⟨T, 0, none⟩ (.int .i32 1)) fun e w' => e = .returned (.tuple #[]) ∧ w'.cell? ⟨T, 0, none⟩ = some (.int .i32 1) ∧ w'.frozen? ⟨T, 0, none⟩ = false ∧ Post (w'.setCell ⟨T, 0, none⟩ (.int .i32 0))) :
    Calls Try.prog 33 #[.pointer (some ⟨T, 0, none⟩), .func (.func 38) #[] #[.pointer (some ⟨B, 0, none⟩), .pointer (some ⟨C, 0, none⟩)]] w fun e w' => e = .returned (.tuple #[]) ∧ Post w' := by
  have HC := Lib.hid hcall
  clear hcall
  go_enter_defers Try.func33, Try.ntmps33
  go_wp2_with (go_at_call 50; refine (lock_free muLib ⟨T, 0, none⟩ _ h0 f0).mono ?_; rintro e w' ⟨rfl, rfl⟩)
  refine HC.out.mono ?_
  rintro e w1 ⟨rfl, h1, f1, hP⟩
  have HP := Lib.hid hP
  clear hP
  go_wp2_with fail
  refine leaves_cons (f := 51) (args := #[.pointer (some ⟨T, 0, none⟩)]) (by simp) (by simp [go_sem]) ?_
  refine (unlock_deferred muLib ⟨T, 0, none⟩ .returning _ h1 f1).mono ?_
  rintro e u' w'' ⟨rfl, rfl, rfl⟩
  exact ⟨_, results_none rfl _ _ _, rfl, HP.out⟩
def holdsT (n : Nat) (L : Nat → List Pl) (ex owner : Int) : Bool := if ¬ (0 ≤ ex ∧ ex < (n : Int)) then false else decide (0 ≤ findI (L (ex.toNat * 2)) owner)
def HoldsPost (base : Nat) (w : World) (T E n Q : Nat) (most ex mode owner : Int) (V : Nat → Value) (gv : Value) (wait : Int) (L : Nat → List Pl) (gl : List Int) (e : Ending) (w' : World) : Prop :=
  e = .returned (.tuple #[]) ∧ LvS base w w' T E n Q most ex mode owner (holdsT n L ex owner) 0 V gv wait V L gv gl
set_option maxRecDepth 20000 in
set_option maxHeartbeats 16000000 in
theorem holds_any (base T E n Q : Nat) (most ex mode owner : Int) (V : Nat → Value) (gv : Value) (wait : Int) (L : Nat → List Pl) (gl : List Int) (w : World) (hS : LvS base w w T E n Q most ex mode owner false 0 V gv wait V L gv gl)
    (hn : n ≤ 4096) (hb : ∀ i, i < 2 * n → (L i).length ≤ 4000000000000) :
    Calls Try.prog 61 #[.pointer (some ⟨Q, 0, none⟩)] w (HoldsPost base w T E n Q most ex mode owner V gv wait L gl) := by
  have S0 := Lib.hid (hS.below (Below.refl w.heap.size w).drew)
  obtain ⟨kb, hkb⟩ : ∃ kb, kb = (decide (0 ≤ ex) && decide (ex < (n : Int))) := ⟨_, rfl⟩
  have gk := known_any T E n ex w.drew (by omega) (hS.tab.tb.cell 2)
  rw [← hkb] at gk
  have GK := Lib.hid gk
  have HKB := Lib.hid hkb
  clear hS hkb gk
  cases kb with
  | false =>
    have hx : ¬ (0 ≤ ex ∧ ex < (n : Int)) := fun h => by have := HKB.out; rw [decide_eq_true h.1, decide_eq_true h.2] at this; cases this
    have HX := Lib.hid hx
    clear hx
    go_enter Try.func61, Try.ntmps61
    go_wp2_with fail
    refine wp_region_noPanic ?_
    refine wp_region_held_drew (S := fun w' => w'.cell? ⟨Q, 0, none⟩ = some (.pointer (some ⟨T, 0, none⟩)) ∧ w'.cell? ⟨Q, 1, none⟩ = some (.int .i64 ex)) (by kernel_rfl) (⟨S0.out.req.cell 0, S0.out.req.cell 1⟩) (fun hHeld => ?_)
    refine take_on (i := 0) (some 2) (v := ?vr1) rfl rfl (by kernel_rfl) (by kernel_rfl) (by kernel_rfl) (fun _ _ _ h => h) (by rfl) ?hyr1 (by with_reducible exact hHeld) ?restr1
    case hyr1 => (intro wS hSw; (try dsimp only at hSw); go_simp; try with_reducible rfl)
    try simp only [Act.put, List.setIfInBounds_toArray, List.set_cons_zero, List.set_cons_succ]
    refine take_on (i := 1) (some 3) (v := ?vr2) rfl rfl (by kernel_rfl) (by kernel_rfl) (by kernel_rfl) (fun _ _ _ h => h) (by rfl) ?hyr2 (by with_reducible exact hHeld) ?restr2
    case hyr2 => (intro wS hSw; (try dsimp only at hSw); go_simp; try with_reducible rfl)
    try simp only [Act.put, List.setIfInBounds_toArray, List.set_cons_zero, List.set_cons_succ]
    refine take_on (i := 2) (some 4) (v := ?vr3) rfl rfl (by kernel_rfl) (by kernel_rfl) (by kernel_rfl) (fun _ _ _ h => h) (by rfl) ?hyr3 (by with_reducible exact hHeld) ?restr3
    case hyr3 => (intro wS hSw; (try dsimp only at hSw); go_simp; try with_reducible rfl)
    try simp only [Act.put, List.setIfInBounds_toArray, List.set_cons_zero, List.set_cons_succ]
    refine take_on (i := 3) (some 5) (v := ?vr4) rfl rfl (by kernel_rfl) (by kernel_rfl) (by kernel_rfl) (fun _ _ _ h => h) (by rfl) ?hyr4 (by with_reducible exact hHeld) ?restr4
    case hyr4 => (intro wS hSw; (try dsimp only at hSw); go_simp; try with_reducible rfl)
    try simp only [Act.put, List.setIfInBounds_toArray, List.set_cons_zero, List.set_cons_succ]
    refine take_on (i := 4) (some 6) (v := ?vr5) rfl rfl (by kernel_rfl) (by kernel_rfl) (by kernel_rfl) (fun _ _ _ h => h) (by rfl) ?hyr5 (by with_reducible exact hHeld) ?restr5
    case hyr5 => (intro wS hSw; (try dsimp only at hSw); go_simp; try with_reducible rfl)
    try simp only [Act.put, List.setIfInBounds_toArray, List.set_cons_zero, List.set_cons_succ]
    refine take_on (i := 5) (some 7) (v := ?vr6) rfl rfl (by kernel_rfl) (by kernel_rfl) (by kernel_rfl) (fun _ _ _ h => h) (by rfl) ?hyr6 (by with_reducible exact hHeld) ?restr6
    case hyr6 => (intro wS hSw; (try dsimp only at hSw); go_simp; try with_reducible rfl)
    try simp only [Act.put, List.setIfInBounds_toArray, List.set_cons_zero, List.set_cons_succ]
    refine take_on (i := 6) (some 8) (v := ?vr7) rfl rfl (by kernel_rfl) (by kernel_rfl) (by kernel_rfl) (fun _ _ _ h => h) (by rfl) ?hyr7 (by with_reducible exact hHeld) ?restr7
    case hyr7 => (intro wS hSw; (try dsimp only at hSw); go_simp; try with_reducible rfl)
    try simp only [Act.put, List.setIfInBounds_toArray, List.set_cons_zero, List.set_cons_succ]
    refine take_on (i := 7) (some 9) (v := ?vr8) rfl rfl (by kernel_rfl) (by kernel_rfl) (by kernel_rfl) (fun _ _ _ h => h) (by rfl) ?hyr8 (by with_reducible exact hHeld) ?restr8
    case hyr8 => (intro wS hSw; (try dsimp only at hSw); go_simp; try with_reducible rfl)
    try simp only [Act.put, List.setIfInBounds_toArray, List.set_cons_zero, List.set_cons_succ]
    refine take_on (i := 8) (some 10) (v := ?vr9) rfl rfl (by kernel_rfl) (by kernel_rfl) (by kernel_rfl) (fun _ _ _ h => h) (by rfl) ?hyr9 (by with_reducible exact hHeld) ?restr9
    case hyr9 => (intro wS hSw; (try dsimp only at hSw); go_simp; try with_reducible rfl)
    try simp only [Act.put, List.setIfInBounds_toArray, List.set_cons_zero, List.set_cons_succ]
    refine wpAnyH_ready (rs := [9]) (by kernel_rfl) (by simp) ?_
    refine AllReadyH.cons rfl (fun K hK => ?_) AllReadyH.nil
    go_simp
    with_reducible refine GK.out.mono ?_
    rintro e w1 ⟨rfl, rfl⟩
    clear GK
    refine hK.out _ _ (⟨S0.out.req.cell 0, S0.out.req.cell 1⟩) (fun hHeld => ?_)
    clear hK K
    try simp only [Act.put, List.setIfInBounds_toArray, List.set_cons_zero, List.set_cons_succ]
    refine take_on (i := 10) (some 12) (v := ?vr10) rfl rfl (by kernel_rfl) (by kernel_rfl) (by kernel_rfl) (fun _ _ _ h => h) (by rfl) ?hyr10 (by with_reducible exact hHeld) ?restr10
    case hyr10 => (intro wS hSw; (try dsimp only at hSw); go_simp; try with_reducible rfl)
    try simp only [Act.put, List.setIfInBounds_toArray, List.set_cons_zero, List.set_cons_succ]
    refine take_off (i := 11) (some 13) rfl rfl (by kernel_rfl) (by kernel_rfl) (by kernel_rfl) (fun _ _ _ h => h) (by rfl) (by with_reducible exact hHeld) ?_
    try simp only [Act.put, List.setIfInBounds_toArray, List.set_cons_zero, List.set_cons_succ]
    refine take_off (i := 12) (some 14) rfl rfl (by kernel_rfl) (by kernel_rfl) (by kernel_rfl) (fun _ _ _ h => h) (by rfl) (by with_reducible exact hHeld) ?_
    try simp only [Act.put, List.setIfInBounds_toArray, List.set_cons_zero, List.set_cons_succ]
    refine take_off (i := 13) (some 15) rfl rfl (by kernel_rfl) (by kernel_rfl) (by kernel_rfl) (fun _ _ _ h => h) (by rfl) (by with_reducible exact hHeld) ?_
    try simp only [Act.put, List.setIfInBounds_toArray, List.set_cons_zero, List.set_cons_succ]
    refine take_off (i := 14) (some 16) rfl rfl (by kernel_rfl) (by kernel_rfl) (by kernel_rfl) (fun _ _ _ h => h) (by rfl) (by with_reducible exact hHeld) ?_
    try simp only [Act.put, List.setIfInBounds_toArray, List.set_cons_zero, List.set_cons_succ]
    refine take_off (i := 15) (some 17) rfl rfl (by kernel_rfl) (by kernel_rfl) (by kernel_rfl) (fun _ _ _ h => h) (by rfl) (by with_reducible exact hHeld) ?_
    try simp only [Act.put, List.setIfInBounds_toArray, List.set_cons_zero, List.set_cons_succ]
    refine take_off (i := 16) (some 18) rfl rfl (by kernel_rfl) (by kernel_rfl) (by kernel_rfl) (fun _ _ _ h => h) (by rfl) (by with_reducible exact hHeld) ?_
    try simp only [Act.put, List.setIfInBounds_toArray, List.set_cons_zero, List.set_cons_succ]
    refine take_off (i := 17) (some 19) rfl rfl (by kernel_rfl) (by kernel_rfl) (by kernel_rfl) (fun _ _ _ h => h) (by rfl) (by with_reducible exact hHeld) ?_
    try simp only [Act.put, List.setIfInBounds_toArray, List.set_cons_zero, List.set_cons_succ]
    refine take_off (i := 18) (some 20) rfl rfl (by kernel_rfl) (by kernel_rfl) (by kernel_rfl) (fun _ _ _ h => h) (by rfl) (by with_reducible exact hHeld) ?_
    try simp only [Act.put, List.setIfInBounds_toArray, List.set_cons_zero, List.set_cons_succ]
    refine take_off (i := 19) (some 21) rfl rfl (by kernel_rfl) (by kernel_rfl) (by kernel_rfl) (fun _ _ _ h => h) (by rfl) (by with_reducible exact hHeld) ?_
    try simp only [Act.put, List.setIfInBounds_toArray, List.set_cons_zero, List.set_cons_succ]
    refine take_off (i := 20) (some 22) rfl rfl (by kernel_rfl) (by kernel_rfl) (by kernel_rfl) (fun _ _ _ h => h) (by rfl) (by with_reducible exact hHeld) ?_
    try simp only [Act.put, List.setIfInBounds_toArray, List.set_cons_zero, List.set_cons_succ]
    refine take_off (i := 21) (some 23) rfl rfl (by kernel_rfl) (by kernel_rfl) (by kernel_rfl) (fun _ _ _ h => h) (by rfl) (by with_reducible exact hHeld) ?_
    try simp only [Act.put, List.setIfInBounds_toArray, List.set_cons_zero, List.set_cons_succ]
    refine take_off (i := 22) (some 24) rfl rfl (by kernel_rfl) (by kernel_rfl) (by kernel_rfl) (fun _ _ _ h => h) (by rfl) (by with_reducible exact hHeld) ?_
    try simp only [Act.put, List.setIfInBounds_toArray, List.set_cons_zero, List.set_cons_succ]
    refine take_off (i := 23) (some 25) rfl rfl (by kernel_rfl) (by kernel_rfl) (by kernel_rfl) (fun _ _ _ h => h) (by rfl) (by with_reducible exact hHeld) ?_
    try simp only [Act.put, List.setIfInBounds_toArray, List.set_cons_zero, List.set_cons_succ]
    refine take_off (i := 24) (some 26) rfl rfl (by kernel_rfl) (by kernel_rfl) (by kernel_rfl) (fun _ _ _ h => h) (by rfl) (by with_reducible exact hHeld) ?_
    try simp only [Act.put, List.setIfInBounds_toArray, List.set_cons_zero, List.set_cons_succ]
    refine take_off (i := 25) (some 27) rfl rfl (by kernel_rfl) (by kernel_rfl) (by kernel_rfl) (fun _ _ _ h => h) (by rfl) (by with_reducible exact hHeld) ?_
    try simp only [Act.put, List.setIfInBounds_toArray, List.set_cons_zero, List.set_cons_succ]
    refine take_off (i := 26) (some 28) rfl rfl (by kernel_rfl) (by kernel_rfl) (by kernel_rfl) (fun _ _ _ h => h) (by rfl) (by with_reducible exact hHeld) ?_
    try simp only [Act.put, List.setIfInBounds_toArray, List.set_cons_zero, List.set_cons_succ]
    refine take_off (i := 27) (some 29) rfl rfl (by kernel_rfl) (by kernel_rfl) (by kernel_rfl) (fun _ _ _ h => h) (by rfl) (by with_reducible exact hHeld) ?_
    try simp only [Act.put, List.setIfInBounds_toArray, List.set_cons_zero, List.set_cons_succ]
    refine take_off (i := 28) (some 30) rfl rfl (by kernel_rfl) (by kernel_rfl) (by kernel_rfl) (fun _ _ _ h => h) (by rfl) (by with_reducible exact hHeld) ?_
    try simp only [Act.put, List.setIfInBounds_toArray, List.set_cons_zero, List.set_cons_succ]
    refine take_off (i := 29) (some 31) rfl rfl (by kernel_rfl) (by kernel_rfl) (by kernel_rfl) (fun _ _ _ h => h) (by rfl) (by with_reducible exact hHeld) ?_
    try simp only [Act.put, List.setIfInBounds_toArray, List.set_cons_zero, List.set_cons_succ]
    refine take_off (i := 30) (some 32) rfl rfl (by kernel_rfl) (by kernel_rfl) (by kernel_rfl) (fun _ _ _ h => h) (by rfl) (by with_reducible exact hHeld) ?_
    try simp only [Act.put, List.setIfInBounds_toArray, List.set_cons_zero, List.set_cons_succ]
    refine take_on (i := 31) (some 33) (v := ?vr11) rfl rfl (by kernel_rfl) (by kernel_rfl) (by kernel_rfl) (fun _ _ _ h => h) (by rfl) ?hyr11 (by with_reducible exact hHeld) ?restr11
    case hyr11 => (intro wS hSw; (try dsimp only at hSw); go_simp; try with_reducible rfl)
    try simp only [Act.put, List.setIfInBounds_toArray, List.set_cons_zero, List.set_cons_succ]
    refine take_on (i := 32) (some 34) (v := ?vr12) rfl rfl (by kernel_rfl) (by kernel_rfl) (by kernel_rfl) (fun _ _ _ h => h) (by rfl) ?hyr12 (by with_reducible exact hHeld) ?restr12
    case hyr12 => (intro wS hSw; (try dsimp only at hSw); go_simp; try with_reducible rfl)
    try simp only [Act.put, List.setIfInBounds_toArray, List.set_cons_zero, List.set_cons_succ]
    refine take_on (i := 33) (some 35) (v := ?vr13) rfl rfl (by kernel_rfl) (by kernel_rfl) (by kernel_rfl) (fun _ _ _ h => h) (by rfl) ?hyr13 (by with_reducible exact hHeld) ?restr13
    case hyr13 => (intro wS hSw; (try dsimp only at hSw); go_simp; try with_reducible rfl)
    try simp only [Act.put, List.setIfInBounds_toArray, List.set_cons_zero, List.set_cons_succ]
    have qe : w.drew.cell? ⟨Q, 5, none⟩ = some (.bool false) := S0.out.req.cell 5
    have fe := S0.out.req.frozen 5
    have SE := Lib.hid (S0.out.ok1 (false))
    refine wpAnyH_ready (rs := [34]) (by kernel_rfl) (by simp) ?_
    refine AllReadyH.cons rfl (fun K hK => ?_) AllReadyH.nil
    go_simp
    refine hK.out _ _ (⟨SE.out.req.cell 0, SE.out.req.cell 1⟩) (fun hHeld => ?_)
    clear hK K
    try simp only [Act.put, List.setIfInBounds_toArray, List.set_cons_zero, List.set_cons_succ]
    refine wpAnyH_done (by kernel_rfl) ?_ _
    refine NoPanic.normal ?_
    go_wp2
    go_end0
    exact ⟨rfl, by rw [holdsT, if_pos HX.out]; exact SE.out⟩
  | true =>
    have hx : 0 ≤ ex ∧ ex < (n : Int) := by have := HKB.out; simp at this; exact this
    obtain ⟨x, hxe⟩ : ∃ x : Nat, ex = (x : Int) := ⟨ex.toNat, by omega⟩
    subst hxe
    have hxn : x < n := by omega
    have hx2 : (x : Int) < (n : Int) := hx.2
    have hx0 : (0 : Int) ≤ (x : Int) := hx.1
    have i0 : x * 2 < 2 * n := by omega
    have HX := Lib.hid hx
    obtain ⟨Ah, ch, eh, hGh, hAh⟩ := S0.out.tab.own (x * 2) i0
    obtain ⟨hn', hhn⟩ : ∃ k, k = (L (x * 2)).length := ⟨_, rfl⟩
    rw [← hhn] at eh
    have hbh : hn' ≤ 4000000000000 := by rw [hhn]; exact hb _ i0
    have HHN := Lib.hid hhn
    have EH := Lib.hid eh
    obtain ⟨fi, hfi⟩ : ∃ fi, fi = findI (L (x * 2)) owner := ⟨_, rfl⟩
    have g1 := find_any Ah ch hn' (L (x * 2)) owner w.drew hhn.symm (by omega) hGh.rds
    rw [← hfi] at g1
    have G1 := Lib.hid g1
    have HFI := Lib.hid hfi
    have ce : ∀ v, LvS base w v T E n Q most (x : Int) mode owner false 0 V gv wait V L gv gl → v.cell? ⟨Q, 0, none⟩ = some (.pointer (some ⟨T, 0, none⟩)) ∧ v.cell? ⟨Q, 1, none⟩ = some (.int .i64 (x : Int)) ∧ v.cell? ⟨Q, 3, none⟩ = some (.int .i64 owner) ∧ v.cell? ⟨T, 2, none⟩ = some (.slice (some ⟨E, 0, none⟩) n n) ∧ v.cell? ⟨E, x * 2, none⟩ = some (.slice Ah hn' ch) := fun v h => ⟨h.req.cell 0, h.req.cell 1, h.req.cell 3, h.tab.tb.cell 2, by rw [h.tab.cell i0, EH.out]⟩
    have CE := Lib.hid ce
    clear hx eh hhn g1 hfi ce hGh hAh
    go_enter Try.func61, Try.ntmps61
    go_wp2_with fail
    refine wp_region_noPanic ?_
    refine wp_region_held_drew (S := fun w' => w'.cell? ⟨Q, 0, none⟩ = some (.pointer (some ⟨T, 0, none⟩)) ∧ w'.cell? ⟨Q, 1, none⟩ = some (.int .i64 (x : Int)) ∧ w'.cell? ⟨Q, 3, none⟩ = some (.int .i64 owner) ∧ w'.cell? ⟨T, 2, none⟩ = some (.slice (some ⟨E, 0, none⟩) n n) ∧ w'.cell? ⟨E, x * 2, none⟩ = some (.slice Ah hn' ch)) (by kernel_rfl) (CE.out _ S0.out) (fun hHeld => ?_)
    refine take_on (i := 0) (some 2) (v := ?vr14) rfl rfl (by kernel_rfl) (by kernel_rfl) (by kernel_rfl) (fun _ _ _ h => h) (by rfl) ?hyr14 (by with_reducible exact hHeld) ?restr14
    case hyr14 => (intro wS hSw; (try dsimp only at hSw); go_simp; try with_reducible rfl)
    try simp only [Act.put, List.setIfInBounds_toArray, List.set_cons_zero, List.set_cons_succ]
    refine take_on (i := 1) (some 3) (v := ?vr15) rfl rfl (by kernel_rfl) (by kernel_rfl) (by kernel_rfl) (fun _ _ _ h => h) (by rfl) ?hyr15 (by with_reducible exact hHeld) ?restr15
    case hyr15 => (intro wS hSw; (try dsimp only at hSw); go_simp; try with_reducible rfl)
    try simp only [Act.put, List.setIfInBounds_toArray, List.set_cons_zero, List.set_cons_succ]
    refine take_on (i := 2) (some 4) (v := ?vr16) rfl rfl (by kernel_rfl) (by kernel_rfl) (by kernel_rfl) (fun _ _ _ h => h) (by rfl) ?hyr16 (by with_reducible exact hHeld) ?restr16
    case hyr16 => (intro wS hSw; (try dsimp only at hSw); go_simp; try with_reducible rfl)
    try simp only [Act.put, List.setIfInBounds_toArray, List.set_cons_zero, List.set_cons_succ]
    refine take_on (i := 3) (some 5) (v := ?vr17) rfl rfl (by kernel_rfl) (by kernel_rfl) (by kernel_rfl) (fun _ _ _ h => h) (by rfl) ?hyr17 (by with_reducible exact hHeld) ?restr17
    case hyr17 => (intro wS hSw; (try dsimp only at hSw); go_simp; try with_reducible rfl)
    try simp only [Act.put, List.setIfInBounds_toArray, List.set_cons_zero, List.set_cons_succ]
    refine take_on (i := 4) (some 6) (v := ?vr18) rfl rfl (by kernel_rfl) (by kernel_rfl) (by kernel_rfl) (fun _ _ _ h => h) (by rfl) ?hyr18 (by with_reducible exact hHeld) ?restr18
    case hyr18 => (intro wS hSw; (try dsimp only at hSw); go_simp; try with_reducible rfl)
    try simp only [Act.put, List.setIfInBounds_toArray, List.set_cons_zero, List.set_cons_succ]
    refine take_on (i := 5) (some 7) (v := ?vr19) rfl rfl (by kernel_rfl) (by kernel_rfl) (by kernel_rfl) (fun _ _ _ h => h) (by rfl) ?hyr19 (by with_reducible exact hHeld) ?restr19
    case hyr19 => (intro wS hSw; (try dsimp only at hSw); go_simp; try with_reducible rfl)
    try simp only [Act.put, List.setIfInBounds_toArray, List.set_cons_zero, List.set_cons_succ]
    refine take_on (i := 6) (some 8) (v := ?vr20) rfl rfl (by kernel_rfl) (by kernel_rfl) (by kernel_rfl) (fun _ _ _ h => h) (by rfl) ?hyr20 (by with_reducible exact hHeld) ?restr20
    case hyr20 => (intro wS hSw; (try dsimp only at hSw); go_simp; try with_reducible rfl)
    try simp only [Act.put, List.setIfInBounds_toArray, List.set_cons_zero, List.set_cons_succ]
    refine take_on (i := 7) (some 9) (v := ?vr21) rfl rfl (by kernel_rfl) (by kernel_rfl) (by kernel_rfl) (fun _ _ _ h => h) (by rfl) ?hyr21 (by with_reducible exact hHeld) ?restr21
    case hyr21 => (intro wS hSw; (try dsimp only at hSw); go_simp; try with_reducible rfl)
    try simp only [Act.put, List.setIfInBounds_toArray, List.set_cons_zero, List.set_cons_succ]
    refine take_on (i := 8) (some 10) (v := ?vr22) rfl rfl (by kernel_rfl) (by kernel_rfl) (by kernel_rfl) (fun _ _ _ h => h) (by rfl) ?hyr22 (by with_reducible exact hHeld) ?restr22
    case hyr22 => (intro wS hSw; (try dsimp only at hSw); go_simp; try with_reducible rfl)
    try simp only [Act.put, List.setIfInBounds_toArray, List.set_cons_zero, List.set_cons_succ]
    refine wpAnyH_ready (rs := [9]) (by kernel_rfl) (by simp) ?_
    refine AllReadyH.cons rfl (fun K hK => ?_) AllReadyH.nil
    go_simp
    with_reducible refine GK.out.mono ?_
    rintro e w1 ⟨rfl, rfl⟩
    clear GK
    refine hK.out _ _ (CE.out _ S0.out) (fun hHeld => ?_)
    clear hK K
    try simp only [Act.put, List.setIfInBounds_toArray, List.set_cons_zero, List.set_cons_succ]
    refine take_on (i := 10) (some 12) (v := ?vr23) rfl rfl (by kernel_rfl) (by kernel_rfl) (by kernel_rfl) (fun _ _ _ h => h) (by rfl) ?hyr23 (by with_reducible exact hHeld) ?restr23
    case hyr23 => (intro wS hSw; (try dsimp only at hSw); go_simp; try with_reducible rfl)
    try simp only [Act.put, List.setIfInBounds_toArray, List.set_cons_zero, List.set_cons_succ]
    refine take_on (i := 11) (some 13) (v := ?vr24) rfl rfl (by kernel_rfl) (by kernel_rfl) (by kernel_rfl) (fun _ _ _ h => h) (by rfl) ?hyr24 (by with_reducible exact hHeld) ?restr24
    case hyr24 => (intro wS hSw; (try dsimp only at hSw); go_simp; try with_reducible rfl)
    try simp only [Act.put, List.setIfInBounds_toArray, List.set_cons_zero, List.set_cons_succ]
    refine take_on (i := 12) (some 14) (v := ?vr25) rfl rfl (by kernel_rfl) (by kernel_rfl) (by kernel_rfl) (fun _ _ _ h => h) (by rfl) ?hyr25 (by with_reducible exact hHeld) ?restr25
    case hyr25 => (intro wS hSw; (try dsimp only at hSw); go_simp; try with_reducible rfl)
    try simp only [Act.put, List.setIfInBounds_toArray, List.set_cons_zero, List.set_cons_succ]
    refine take_on (i := 13) (some 15) (v := ?vr26) rfl rfl (by kernel_rfl) (by kernel_rfl) (by kernel_rfl) (fun _ _ _ h => h) (by rfl) ?hyr26 (by with_reducible exact hHeld) ?restr26
    case hyr26 => (intro wS hSw; (try dsimp only at hSw); go_simp; try with_reducible rfl)
    try simp only [Act.put, List.setIfInBounds_toArray, List.set_cons_zero, List.set_cons_succ]
    refine take_on (i := 14) (some 16) (v := ?vr27) rfl rfl (by kernel_rfl) (by kernel_rfl) (by kernel_rfl) (fun _ _ _ h => h) (by rfl) ?hyr27 (by with_reducible exact hHeld) ?restr27
    case hyr27 => (intro wS hSw; (try dsimp only at hSw); go_simp; try with_reducible rfl)
    try simp only [Act.put, List.setIfInBounds_toArray, List.set_cons_zero, List.set_cons_succ]
    refine take_on (i := 15) (some 17) (v := ?vr28) rfl rfl (by kernel_rfl) (by kernel_rfl) (by kernel_rfl) (fun _ _ _ h => h) (by rfl) ?hyr28 (by with_reducible exact hHeld) ?restr28
    case hyr28 => (intro wS hSw; (try dsimp only at hSw); go_simp; try with_reducible rfl)
    try simp only [Act.put, List.setIfInBounds_toArray, List.set_cons_zero, List.set_cons_succ]
    refine take_on (i := 16) (some 18) (v := ?vr29) rfl rfl (by kernel_rfl) (by kernel_rfl) (by kernel_rfl) (fun _ _ _ h => h) (by rfl) ?hyr29 (by with_reducible exact hHeld) ?restr29
    case hyr29 => (intro wS hSw; (try dsimp only at hSw); go_simp; try with_reducible rfl)
    try simp only [Act.put, List.setIfInBounds_toArray, List.set_cons_zero, List.set_cons_succ]
    refine take_on (i := 17) (some 19) (v := ?vr30) rfl rfl (by kernel_rfl) (by kernel_rfl) (by kernel_rfl) (fun _ _ _ h => h) (by rfl) ?hyr30 (by with_reducible exact hHeld) ?restr30
    case hyr30 => (intro wS hSw; (try dsimp only at hSw); go_simp; try with_reducible rfl)
    try simp only [Act.put, List.setIfInBounds_toArray, List.set_cons_zero, List.set_cons_succ]
    refine take_on (i := 18) (some 20) (v := ?vr31) rfl rfl (by kernel_rfl) (by kernel_rfl) (by kernel_rfl) (fun _ _ _ h => h) (by rfl) ?hyr31 (by with_reducible exact hHeld) ?restr31
    case hyr31 => (intro wS hSw; (try dsimp only at hSw); go_simp; try with_reducible rfl)
    try simp only [Act.put, List.setIfInBounds_toArray, List.set_cons_zero, List.set_cons_succ]
    refine take_on (i := 19) (some 21) (v := ?vr32) rfl rfl (by kernel_rfl) (by kernel_rfl) (by kernel_rfl) (fun _ _ _ h => h) (by rfl) ?hyr32 (by with_reducible exact hHeld) ?restr32
    case hyr32 => (intro wS hSw; (try dsimp only at hSw); go_simp; try with_reducible rfl)
    try simp only [Act.put, List.setIfInBounds_toArray, List.set_cons_zero, List.set_cons_succ]
    refine take_on (i := 20) (some 22) (v := ?vr33) rfl rfl (by kernel_rfl) (by kernel_rfl) (by kernel_rfl) (fun _ _ _ h => h) (by rfl) ?hyr33 (by with_reducible exact hHeld) ?restr33
    case hyr33 => (intro wS hSw; (try dsimp only at hSw); go_simp; try with_reducible rfl)
    try simp only [Act.put, List.setIfInBounds_toArray, List.set_cons_zero, List.set_cons_succ]
    refine take_on (i := 21) (some 23) (v := ?vr34) rfl rfl (by kernel_rfl) (by kernel_rfl) (by kernel_rfl) (fun _ _ _ h => h) (by rfl) ?hyr34 (by with_reducible exact hHeld) ?restr34
    case hyr34 => (intro wS hSw; (try dsimp only at hSw); go_simp; try with_reducible rfl)
    try simp only [Act.put, List.setIfInBounds_toArray, List.set_cons_zero, List.set_cons_succ]
    refine take_on (i := 22) (some 24) (v := ?vr35) rfl rfl (by kernel_rfl) (by kernel_rfl) (by kernel_rfl) (fun _ _ _ h => h) (by rfl) ?hyr35 (by with_reducible exact hHeld) ?restr35
    case hyr35 => (intro wS hSw; (try dsimp only at hSw); go_simp; try with_reducible rfl)
    try simp only [Act.put, List.setIfInBounds_toArray, List.set_cons_zero, List.set_cons_succ]
    refine take_on (i := 23) (some 25) (v := ?vr36) rfl rfl (by kernel_rfl) (by kernel_rfl) (by kernel_rfl) (fun _ _ _ h => h) (by rfl) ?hyr36 (by with_reducible exact hHeld) ?restr36
    case hyr36 => (intro wS hSw; (try dsimp only at hSw); go_simp; try with_reducible rfl)
    try simp only [Act.put, List.setIfInBounds_toArray, List.set_cons_zero, List.set_cons_succ]
    refine take_on (i := 24) (some 26) (v := ?vr37) rfl rfl (by kernel_rfl) (by kernel_rfl) (by kernel_rfl) (fun _ _ _ h => h) (by rfl) ?hyr37 (by with_reducible exact hHeld) ?restr37
    case hyr37 => (intro wS hSw; (try dsimp only at hSw); go_simp; try with_reducible rfl)
    try simp only [Act.put, List.setIfInBounds_toArray, List.set_cons_zero, List.set_cons_succ]
    refine take_on (i := 25) (some 27) (v := ?vr38) rfl rfl (by kernel_rfl) (by kernel_rfl) (by kernel_rfl) (fun _ _ _ h => h) (by rfl) ?hyr38 (by with_reducible exact hHeld) ?restr38
    case hyr38 => (intro wS hSw; (try dsimp only at hSw); go_simp; try with_reducible rfl)
    try simp only [Act.put, List.setIfInBounds_toArray, List.set_cons_zero, List.set_cons_succ]
    refine take_on (i := 26) (some 28) (v := ?vr39) rfl rfl (by kernel_rfl) (by kernel_rfl) (by kernel_rfl) (fun _ _ _ h => h) (by rfl) ?hyr39 (by with_reducible exact hHeld) ?restr39
    case hyr39 => (intro wS hSw; (try dsimp only at hSw); go_simp; try with_reducible rfl)
    try simp only [Act.put, List.setIfInBounds_toArray, List.set_cons_zero, List.set_cons_succ]
    refine take_on (i := 27) (some 29) (v := ?vr40) rfl rfl (by kernel_rfl) (by kernel_rfl) (by kernel_rfl) (fun _ _ _ h => h) (by rfl) ?hyr40 (by with_reducible exact hHeld) ?restr40
    case hyr40 => (intro wS hSw; (try dsimp only at hSw); go_simp; try with_reducible rfl)
    try simp only [Act.put, List.setIfInBounds_toArray, List.set_cons_zero, List.set_cons_succ]
    refine take_on (i := 28) (some 30) (v := ?vr41) rfl rfl (by kernel_rfl) (by kernel_rfl) (by kernel_rfl) (fun _ _ _ h => h) (by rfl) ?hyr41 (by with_reducible exact hHeld) ?restr41
    case hyr41 => (intro wS hSw; (try dsimp only at hSw); go_simp; try with_reducible rfl)
    try simp only [Act.put, List.setIfInBounds_toArray, List.set_cons_zero, List.set_cons_succ]
    refine wpAnyH_ready (rs := [29]) (by kernel_rfl) (by simp) ?_
    refine AllReadyH.cons rfl (fun K hK => ?_) AllReadyH.nil
    go_simp
    with_reducible refine G1.out.mono ?_
    rintro e w3 ⟨rfl, hB3⟩
    have S3 := Lib.hid (S0.out.below hB3)
    clear G1 hB3
    refine hK.out _ _ (CE.out _ S3.out) (fun hHeld => ?_)
    clear hK K
    try simp only [Act.put, List.setIfInBounds_toArray, List.set_cons_zero, List.set_cons_succ]
    refine take_on (i := 30) (some 32) (v := ?vr42) rfl rfl (by kernel_rfl) (by kernel_rfl) (by kernel_rfl) (fun _ _ _ h => h) (by rfl) ?hyr42 (by with_reducible exact hHeld) ?restr42
    case hyr42 => (intro wS hSw; (try dsimp only at hSw); go_simp; try with_reducible rfl)
    try simp only [Act.put, List.setIfInBounds_toArray, List.set_cons_zero, List.set_cons_succ]
    refine take_on (i := 31) (some 33) (v := ?vr43) rfl rfl (by kernel_rfl) (by kernel_rfl) (by kernel_rfl) (fun _ _ _ h => h) (by rfl) ?hyr43 (by with_reducible exact hHeld) ?restr43
    case hyr43 => (intro wS hSw; (try dsimp only at hSw); go_simp; try with_reducible rfl)
    try simp only [Act.put, List.setIfInBounds_toArray, List.set_cons_zero, List.set_cons_succ]
    refine take_on (i := 32) (some 34) (v := ?vr44) rfl rfl (by kernel_rfl) (by kernel_rfl) (by kernel_rfl) (fun _ _ _ h => h) (by rfl) ?hyr44 (by with_reducible exact hHeld) ?restr44
    case hyr44 => (intro wS hSw; (try dsimp only at hSw); go_simp; try with_reducible rfl)
    try simp only [Act.put, List.setIfInBounds_toArray, List.set_cons_zero, List.set_cons_succ]
    refine take_on (i := 33) (some 35) (v := ?vr45) rfl rfl (by kernel_rfl) (by kernel_rfl) (by kernel_rfl) (fun _ _ _ h => h) (by rfl) ?hyr45 (by with_reducible exact hHeld) ?restr45
    case hyr45 => (intro wS hSw; (try dsimp only at hSw); go_simp; try with_reducible rfl)
    try simp only [Act.put, List.setIfInBounds_toArray, List.set_cons_zero, List.set_cons_succ]
    have qe : w3.cell? ⟨Q, 5, none⟩ = some (.bool false) := S3.out.req.cell 5
    have fe := S3.out.req.frozen 5
    have SE := Lib.hid (S3.out.ok1 (decide (0 ≤ fi)))
    refine wpAnyH_ready (rs := [34]) (by kernel_rfl) (by simp) ?_
    refine AllReadyH.cons rfl (fun K hK => ?_) AllReadyH.nil
    go_simp
    refine hK.out _ _ (⟨SE.out.req.cell 0, SE.out.req.cell 1, SE.out.req.cell 3, SE.out.tab.tb.cell 2, by rw [SE.out.tab.cell i0, EH.out]⟩) (fun hHeld => ?_)
    clear hK K
    try simp only [Act.put, List.setIfInBounds_toArray, List.set_cons_zero, List.set_cons_succ]
    refine wpAnyH_done (by kernel_rfl) ?_ _
    refine NoPanic.normal ?_
    go_wp2
    go_end0
    exact ⟨rfl, by rw [holdsT, if_neg (fun h => h HX.out), Int.toNat_natCast, ← HFI.out]; exact SE.out⟩
theorem rdx_of {w wx : World} {Ag : Option Addr} {cg : Nat} {l : List Int} (hG : GSl enc1 1 3 wx Ag cg l) (hA : Ag = none ∨ ∃ g, Ag = some ⟨g, 0, none⟩ ∧ w.heap.size ≤ g) : Rd encI wx Ag l ∧ ∀ ad, Ag = some ad → w.heap.size ≤ ad.block ∧ ∃ cs, Blk wx ad.block 3 cs := by
  refine ⟨rd_of_g hG, fun ad e => ?_⟩
  rcases hA with h | ⟨g, h, hb⟩
  · rw [h] at e; cases e
  · rw [h] at e; cases e
    rcases hG with ⟨h2, _⟩ | ⟨g2, o2, cs2, h2, _, _, h3, _⟩
    · rw [h] at h2; cases h2
    · rw [h] at h2; cases h2; exact ⟨hb, cs2, h3⟩
set_option maxRecDepth 20000 in
set_option maxHeartbeats 8000000 in
theorem dropM_any (base T E n i : Nat) (most owner : Int) (V : Nat → Value) (wait : Int) (L : Nat → List Pl) (w : World) (h : TabS base w T E n 0 most wait V L) (hn : n ≤ 4096) (hI : Inv n i L wait) (hi : i ≤ 4000000000000) (hw : wait ≤ 1000000) :
    Calls Try.prog 23 #[.pointer (some ⟨T, 0, none⟩), .int .i64 owner] w fun e w' => ∃ A c, e = .returned (.slice A (dropN n owner n L wait).2.2.length c) ∧ Rd encI w' A (dropN n owner n L wait).2.2 ∧ (∀ ad, A = some ad → w.heap.size ≤ ad.block ∧ ∃ cs, Blk w' ad.block 3 cs) ∧ ∃ V' : Nat → Value, TabS base w' T E n 0 most (dropN n owner n L wait).2.1 V' (dropN n owner n L wait).1 ∧ Chg (fun k _ => Fp T E n V k) w w' ∧ (∀ k, Fp T E n V' k → Fp T E n V k ∨ w.heap.size ≤ k) := by
  have h0 : (w.alloc (reqO T 0 0 owner)).cell? ⟨T, 0, none⟩ = some (.int .i32 0) := (h.tb.alloc _).cell 0
  have f0 := (h.tb.alloc (reqO T 0 0 owner)).frozen 0
  have S0 := start_of h 0 0 owner
  have g2 := Lib.hid (guarded_drop T w.heap.size (w.alloc (reqO T 0 0 owner)) (FinP base w T E n w.heap.size most 0 0 owner false 0 V (dropN n owner n L wait).2.1 (dropN n owner n L wait).1 (dropN n owner n L wait).2.2) h0 f0 ((drop_any base T E n w.heap.size i most 0 0 owner V wait L _ S0 hn hI hi hw).mono fun e w' hp => by
    obtain ⟨he, V', gv', hS⟩ := hp
    exact ⟨he, fin_of h hS⟩))
  clear S0 h h0 f0 hI
  go_enter Try.func23, Try.ntmps23
  go_wp2_with fail
  refine g2.out.mono ?_
  rintro e w2 ⟨rfl, V', gv, hT, hQ, hO, hC, hF⟩
  clear g2
  obtain ⟨Ag, cg, eg, hGg, hAg⟩ := hO
  subst eg
  have HT := Lib.hid hT
  have HG := Lib.hid (rdx_of hGg hAg)
  have HC := Lib.hid hC
  have HF := Lib.hid hF
  have q4 := hQ.cell 4
  have q4' : w2.cell? ⟨w.heap.size, 4, none⟩ = some (.slice Ag (dropN n owner n L wait).2.2.length cg) := q4
  clear hT hQ hGg hC hF hAg q4
  go_wp2
  go_ret
  exact ⟨Ag, cg, rfl, HG.out.1, HG.out.2, V', HT.out, HC.out, HF.out⟩
set_option maxRecDepth 20000 in
set_option maxHeartbeats 8000000 in
theorem holdsM_any (base T E n : Nat) (most ex owner : Int) (V : Nat → Value) (wait : Int) (L : Nat → List Pl) (w : World) (h : TabS base w T E n 0 most wait V L) (hn : n ≤ 4096) (hb : ∀ i, i < 2 * n → (L i).length ≤ 4000000000000) :
    Calls Try.prog 44 #[.pointer (some ⟨T, 0, none⟩), .int .i64 ex, .int .i64 owner] w fun e w' => e = .returned (.bool (holdsT n L ex owner)) ∧ ∃ V' : Nat → Value, TabS base w' T E n 0 most wait V' L ∧ Chg (fun k _ => Fp T E n V k) w w' ∧ (∀ k, Fp T E n V' k → Fp T E n V k ∨ w.heap.size ≤ k) := by
  have h0 : (w.alloc (reqO T ex 0 owner)).cell? ⟨T, 0, none⟩ = some (.int .i32 0) := (h.tb.alloc _).cell 0
  have f0 := (h.tb.alloc (reqO T ex 0 owner)).frozen 0
  have S0 := start_of h ex 0 owner
  have g2 := Lib.hid (guarded_holds T w.heap.size (w.alloc (reqO T ex 0 owner)) (FinP base w T E n w.heap.size most ex 0 owner (holdsT n L ex owner) 0 V wait L []) h0 f0 ((holds_any base T E n w.heap.size most ex 0 owner V _ wait L _ _ S0 hn hb).mono fun e w' hp => ⟨hp.1, fin_of h hp.2⟩))
  clear S0 h h0 f0
  go_enter Try.func44, Try.ntmps44
  go_wp2_with fail
  refine g2.out.mono ?_
  rintro e w2 ⟨rfl, V', gv, hT, hQ, hO, hC, hF⟩
  clear g2
  have HT := Lib.hid hT
  have HC := Lib.hid hC
  have HF := Lib.hid hF
  have q5 : w2.cell? ⟨w.heap.size, 5, none⟩ = some (.bool (holdsT n L ex owner)) := hQ.cell 5
  clear hT hQ hC hF hO
  go_wp2
  go_ret
  exact ⟨rfl, V', HT.out, HC.out, HF.out⟩
set_option maxHeartbeats 4000000 in
theorem waiting1_any (base T E n B C : Nat) (most wait : Int) (V : Nat → Value) (L : Nat → List Pl) (w : World) (h : TabS base w T E n 1 most wait V L) (hB : Blk w B 26 #[.pointer (some ⟨T, 0, none⟩)]) (hC : Blk w C 3 #[.int .i64 0]) :
    Calls Try.prog 38 #[.pointer (some ⟨B, 0, none⟩), .pointer (some ⟨C, 0, none⟩)] w fun e w' => e = .returned (.tuple #[]) ∧ w' = w.setCell ⟨C, 0, none⟩ (.int .i64 wait) := by
  have b0 : w.cell? ⟨B, 0, none⟩ = some (.pointer (some ⟨T, 0, none⟩)) := hB.cell 0
  have c0 : w.cell? ⟨C, 0, none⟩ = some (.int .i64 0) := hC.cell 0
  have cf := hC.frozen 0
  have t4 : w.cell? ⟨T, 4, none⟩ = some (.int .i64 wait) := h.tb.cell 4
  clear h hB hC
  go_enter Try.func38, Try.ntmps38
  go_wp2
  go_end0
  exact ⟨rfl, rfl⟩
set_option maxHeartbeats 4000000 in
theorem waitingM_any (base T E n : Nat) (most wait : Int) (V : Nat → Value) (L : Nat → List Pl) (w : World) (h : TabS base w T E n 0 most wait V L) :
    Calls Try.prog 25 #[.pointer (some ⟨T, 0, none⟩)] w fun e w' => e = .returned (.int .i64 wait) ∧ TabS base w' T E n 0 most wait V L ∧ Chg (fun k _ => Fp T E n V k) w w' := by
  obtain ⟨W, hW⟩ : ∃ W, W = (w.alloc (.cells #[.pointer (some ⟨T, 0, none⟩)] 26)).alloc (.cells #[.int .i64 0] 3) := ⟨_, rfl⟩
  have BW : Below w.heap.size w W := by rw [hW]; exact ((Below.refl _ _).alloc (Nat.le_refl _) _).alloc (by simp) _
  have hB : Blk W w.heap.size 26 #[.pointer (some ⟨T, 0, none⟩)] := by rw [hW]; exact (Blk.new w _ _).alloc _
  have hC : Blk W (w.heap.size + 1) 3 #[.int .i64 0] := by
    rw [hW]
    have := Blk.new (w.alloc (.cells #[.pointer (some ⟨T, 0, none⟩)] 26)) 3 #[.int .i64 0]
    rw [World.size_alloc] at this
    exact this
  have h1 := (h.below BW).word 1
  have hT : T < w.heap.size := h.tb.lt
  have hBs : Blk (W.setCell ⟨T, 0, none⟩ (.int .i32 1)) w.heap.size 26 #[.pointer (some ⟨T, 0, none⟩)] := hB.far (fun e => by have e2 : w.heap.size = T := e; omega) _
  have hCs : Blk (W.setCell ⟨T, 0, none⟩ (.int .i32 1)) (w.heap.size + 1) 3 #[.int .i64 0] := hC.far (fun e => by have e2 : w.heap.size + 1 = T := e; omega) _
  have h0 : W.cell? ⟨T, 0, none⟩ = some (.int .i32 0) := (h.below BW).tb.cell 0
  have f0 := (h.below BW).tb.frozen 0
  have g2 := Lib.hid (guarded_waiting T w.heap.size (w.heap.size + 1) W (fun w' => w'.cell? ⟨w.heap.size + 1, 0, none⟩ = some (.int .i64 wait) ∧ TabS base w' T E n 0 most wait V L ∧ Chg (fun k _ => Fp T E n V k) w w') h0 f0 ((waiting1_any base T E n w.heap.size (w.heap.size + 1) most wait V L _ h1 hBs hCs).mono fun e w' hp => by
    obtain ⟨he, rfl⟩ := hp
    have ck : Chg (fun k _ => k = w.heap.size + 1) (W.setCell ⟨T, 0, none⟩ (.int .i32 1)) ((W.setCell ⟨T, 0, none⟩ (.int .i32 1)).setCell ⟨w.heap.size + 1, 0, none⟩ (.int .i64 wait)) := Chg.setCell (fun k _ => k = w.heap.size + 1) _ (show w.heap.size + 1 = w.heap.size + 1 from rfl) _
    have h2 : TabS base ((W.setCell ⟨T, 0, none⟩ (.int .i32 1)).setCell ⟨w.heap.size + 1, 0, none⟩ (.int .i64 wait)) T E n 1 most wait V L := h1.other hCs (by decide) (by decide) (by decide) ck fun k _ h => h
    have h3 := h2.word 0
    have c3 := (hCs.set_ 0 (.int .i64 wait)).far (p := ⟨T, 0, none⟩) (fun e => by have e2 : w.heap.size + 1 = T := e; omega) (.int .i32 0)
    refine ⟨he, h2.tb.cell 0, h2.tb.frozen 0, c3.cell 0, h3, ?_⟩
    exact (((Chg.of_below (fun k _ => Fp T E n V k) BW).trans (Chg.setCell (fun k _ => Fp T E n V k) _ (show Fp T E n V T from .inl rfl) _) fun _ _ _ h => h).trans ck fun k i hk h => by omega).trans (Chg.setCell (fun k _ => Fp T E n V k) _ (show Fp T E n V T from .inl rfl) _) fun _ _ _ h => h))
  have d0 : W.cell? ⟨w.heap.size, 0, none⟩ = some (.pointer (some ⟨T, 0, none⟩)) := hB.cell 0
  have HW := Lib.hid hW
  clear h h1 hBs hCs h0 f0 BW hC hB
  go_enter Try.func25, Try.ntmps25
  go_wp2_with fail
  rw [← hW]
  clear hW
  refine g2.out.mono ?_
  rintro e w2 ⟨rfl, hc, hT2, hC2⟩
  have HT := Lib.hid hT2
  have HC := Lib.hid hC2
  clear g2 hT2 hC2
  go_wp2
  go_ret
  exact ⟨rfl, HT.out, HC.out⟩
end Go.Proofs.Ytkjbjfjgnponfaa
