/- Package locks: release, list, guarded, by contract. -/
import Derived.Test.YtkjbjfjgnponfaaLkE
import Derived.Defers
namespace Go.Proofs.Ytkjbjfjgnponfaa
open Go.RowKit
set_option linter.unusedSimpArgs false
section
variable {base : Nat} {w wr wr' : World} {T E n Q : Nat} {most ex mode owner : Int} {ok : Bool} {err : Int} {V0 : Nat → Value} {g0 : Value} {wait : Int} {V : Nat → Value} {L : Nat → List Pl} {gv : Value} {gl : List Int}
theorem LvS.fresh (h : LvS base w wr T E n Q most ex mode owner ok err V0 g0 wait V L gv gl) : LvS base wr wr T E n Q most ex mode owner ok err V gv wait V L gv gl :=
  ⟨h.tab, h.req, h.own, Chg.refl _ _, fun _ h => .inl h, fun _ h => .inl h⟩
theorem LvS.comp {mode' : Int} {ok' : Bool} {err' : Int} {V1 : Nat → Value} {g1 : Value} {wait' : Int} {L1 : Nat → List Pl} {gl1 : List Int} (h : LvS base w wr T E n Q most ex mode owner ok err V0 g0 wait V L gv gl) (k : LvS base wr wr' T E n Q most ex mode' owner ok' err' V gv wait' V1 L1 g1 gl1) : LvS base w wr' T E n Q most ex mode' owner ok' err' V0 g0 wait' V1 L1 g1 gl1 := by
  have hsz := h.chg.size
  refine ⟨k.tab, k.req, k.own, h.chg.trans k.chg fun j i hj hf => ?_, fun j hj => ?_, fun j hj => ?_⟩
  · rcases hf with hf | hf | hf
    · rcases h.fp j hf with h1 | h1
      · exact .inl h1
      · omega
    · exact .inr (.inl hf)
    · rcases h.gp j hf with h1 | h1
      · exact .inr (.inr h1)
      · omega
  · rcases k.fp j hj with h1 | h1
    · exact h.fp j h1
    · exact .inr (Nat.le_trans hsz h1)
  · rcases k.gp j hj with h1 | h1
    · exact h.gp j h1
    · exact .inr (Nat.le_trans hsz h1)
/-- those who came: another list, new memory -/
theorem LvS.gnew {v : Value} {l : List Int} (h : LvS base w wr T E n Q most ex mode owner ok err V0 g0 wait V L gv gl) (ho : OwnI wr base v l) (hv : ∀ k, v.ownBlock = some k → w.heap.size ≤ k) :
    LvS base w (wr.setCell ⟨Q, 4, none⟩ v) T E n Q most ex mode owner ok err V0 g0 wait V L v l := by
  have hset : Chg (fun k _ => k = Q) wr (wr.setCell ⟨Q, 4, none⟩ v) := Chg.setCell (fun k _ => k = Q) _ (show Q = Q from rfl) v
  refine ⟨h.tab.keep hset fun k hk j hf => ?_, h.req.set_ 4 v, ho.chg hset fun g hg _ e => ?_, h.chg.trans hset fun k j hk hf => .inr (.inl hf), h.fp, fun k hk => .inr (hv k hk)⟩
  · obtain rfl := hf
    rcases hk with rfl | rfl | ⟨j, hj, e⟩
    · exact blk_type_ne h.req h.tab.tb (by decide) rfl
    · exact blk_type_ne h.req h.tab.ex (by decide) rfl
    · obtain ⟨_, cs, hb⟩ := (h.tab.own j hj).blk e
      exact blk_type_ne h.req hb (by decide) rfl
  · obtain ⟨_, cs2, hb2⟩ := ho.blk hg
    exact blk_type_ne hb2 h.req (by decide) e
end
def RelPost (base : Nat) (w : World) (T E n Q : Nat) (most ex mode owner : Int) (V : Nat → Value) (gv : Value) (wait : Int) (L : Nat → List Pl) (gl : List Int) (e : Ending) (w' : World) : Prop :=
  e = .returned (.tuple #[]) ∧
  if ¬ (0 ≤ ex ∧ ex < (n : Int)) then LvS base w w' T E n Q most ex mode owner false 2 V gv wait V L gv gl
  else match leaveL (L (ex.toNat * 2)) (L (ex.toNat * 2 + 1)) owner with
    | none => LvS base w w' T E n Q most ex mode owner false 92 V gv wait V L gv gl
    | some q => ∃ V' gv', LvS base w w' T E n Q most ex mode owner false 0 V gv (wait - (q.2.2.2 : Int) - (q.2.2.1.length : Int)) V' (upd (upd L (ex.toNat * 2) q.1) (ex.toNat * 2 + 1) q.2.1) gv' (gl ++ q.2.2.1)
def modeOf (l : List Pl) (m : Int) : Int := match l with
  | [] => m
  | p :: _ => p.2
def ListPost (base : Nat) (w : World) (T E n Q : Nat) (most ex mode owner : Int) (V : Nat → Value) (gv : Value) (wait : Int) (L : Nat → List Pl) (gl : List Int) (e : Ending) (w' : World) : Prop :=
  e = .returned (.tuple #[]) ∧
  if ¬ (0 ≤ ex ∧ ex < (n : Int)) then LvS base w w' T E n Q most ex 0 owner false 2 V gv wait V L gv gl
  else if mode = 1 then ∃ gv', LvS base w w' T E n Q most ex 1 owner false 0 V gv wait V L gv' ((L (ex.toNat * 2 + 1)).map (·.1))
  else ∃ gv', LvS base w w' T E n Q most ex (modeOf (L (ex.toNat * 2)) mode) owner false 0 V gv wait V L gv' ((L (ex.toNat * 2)).map (·.1))
set_option maxRecDepth 20000 in
set_option maxHeartbeats 16000000 in
theorem release_any (base T E n Q : Nat) (most ex mode owner : Int) (V : Nat → Value) (gv : Value) (wait : Int) (L : Nat → List Pl) (gl : List Int) (w : World) (hS : LvS base w w T E n Q most ex mode owner false 0 V gv wait V L gv gl)
    (hn : n ≤ 4096) (hb : ∀ i, i < 2 * n → (L i).length ≤ 4000000000000) (hbr : ∀ i, i < 2 * n → i % 2 = 1 → (L i).length ≤ 1000000) (hbg : gl.length ≤ 8000000000000) (hw : 0 ≤ wait ∧ wait ≤ 1000000) :
    Calls Try.prog 36 #[.pointer (some ⟨Q, 0, none⟩)] w (RelPost base w T E n Q most ex mode owner V gv wait L gl) := by
  have q6 : w.cell? ⟨Q, 6, none⟩ = some (.int .i64 0) := hS.req.cell 6
  have f6 := hS.req.frozen 6
  have q2 : w.cell? ⟨Q, 2, none⟩ = some (.int .i64 mode) := hS.req.cell 2
  have f2 := hS.req.frozen 2
  have HS := Lib.hid hS
  have S0 := Lib.hid (hS.below (Below.refl w.heap.size w).drew)
  have gk := known_any T E n ex w.drew (by omega) (hS.tab.tb.cell 2)
  obtain ⟨kb, hkb⟩ : ∃ kb, kb = (decide (0 ≤ ex) && decide (ex < (n : Int))) := ⟨_, rfl⟩
  rw [← hkb] at gk
  have GK := Lib.hid gk
  have HKB := Lib.hid hkb
  clear hS hkb gk
  go_enter Try.func36, Try.ntmps36
  go_wp2_with fail
  refine wp_region_noPanic ?_
  refine wp_region_held_drew (S := fun w' => w'.cell? ⟨Q, 0, none⟩ = some (.pointer (some ⟨T, 0, none⟩)) ∧ w'.cell? ⟨Q, 1, none⟩ = some (.int .i64 ex)) (by kernel_rfl) (⟨HS.out.req.cell 0, HS.out.req.cell 1⟩) (fun hHeld => ?_)
  refine take_on (i := 0) (some 3) (v := ?vr107) rfl rfl (by kernel_rfl) (by kernel_rfl) (by kernel_rfl) (fun _ _ _ h => h) (by rfl) ?hyr107 (by with_reducible exact hHeld) ?restr107
  case hyr107 => (intro wS hSw; (try dsimp only at hSw); go_simp; try with_reducible rfl)
  try simp only [Act.put, List.setIfInBounds_toArray, List.set_cons_zero, List.set_cons_succ]
  refine take_on (i := 1) (some 4) (v := ?vr108) rfl rfl (by kernel_rfl) (by kernel_rfl) (by kernel_rfl) (fun _ _ _ h => h) (by rfl) ?hyr108 (by with_reducible exact hHeld) ?restr108
  case hyr108 => (intro wS hSw; (try dsimp only at hSw); go_simp; try with_reducible rfl)
  try simp only [Act.put, List.setIfInBounds_toArray, List.set_cons_zero, List.set_cons_succ]
  refine take_on (i := 2) (some 5) (v := ?vr109) rfl rfl (by kernel_rfl) (by kernel_rfl) (by kernel_rfl) (fun _ _ _ h => h) (by rfl) ?hyr109 (by with_reducible exact hHeld) ?restr109
  case hyr109 => (intro wS hSw; (try dsimp only at hSw); go_simp; try with_reducible rfl)
  try simp only [Act.put, List.setIfInBounds_toArray, List.set_cons_zero, List.set_cons_succ]
  refine take_on (i := 3) (some 6) (v := ?vr110) rfl rfl (by kernel_rfl) (by kernel_rfl) (by kernel_rfl) (fun _ _ _ h => h) (by rfl) ?hyr110 (by with_reducible exact hHeld) ?restr110
  case hyr110 => (intro wS hSw; (try dsimp only at hSw); go_simp; try with_reducible rfl)
  try simp only [Act.put, List.setIfInBounds_toArray, List.set_cons_zero, List.set_cons_succ]
  refine take_on (i := 4) (some 7) (v := ?vr111) rfl rfl (by kernel_rfl) (by kernel_rfl) (by kernel_rfl) (fun _ _ _ h => h) (by rfl) ?hyr111 (by with_reducible exact hHeld) ?restr111
  case hyr111 => (intro wS hSw; (try dsimp only at hSw); go_simp; try with_reducible rfl)
  try simp only [Act.put, List.setIfInBounds_toArray, List.set_cons_zero, List.set_cons_succ]
  refine take_on (i := 5) (some 8) (v := ?vr112) rfl rfl (by kernel_rfl) (by kernel_rfl) (by kernel_rfl) (fun _ _ _ h => h) (by rfl) ?hyr112 (by with_reducible exact hHeld) ?restr112
  case hyr112 => (intro wS hSw; (try dsimp only at hSw); go_simp; try with_reducible rfl)
  try simp only [Act.put, List.setIfInBounds_toArray, List.set_cons_zero, List.set_cons_succ]
  refine take_on (i := 6) (some 9) (v := ?vr113) rfl rfl (by kernel_rfl) (by kernel_rfl) (by kernel_rfl) (fun _ _ _ h => h) (by rfl) ?hyr113 (by with_reducible exact hHeld) ?restr113
  case hyr113 => (intro wS hSw; (try dsimp only at hSw); go_simp; try with_reducible rfl)
  try simp only [Act.put, List.setIfInBounds_toArray, List.set_cons_zero, List.set_cons_succ]
  refine take_on (i := 7) (some 10) (v := ?vr114) rfl rfl (by kernel_rfl) (by kernel_rfl) (by kernel_rfl) (fun _ _ _ h => h) (by rfl) ?hyr114 (by with_reducible exact hHeld) ?restr114
  case hyr114 => (intro wS hSw; (try dsimp only at hSw); go_simp; try with_reducible rfl)
  try simp only [Act.put, List.setIfInBounds_toArray, List.set_cons_zero, List.set_cons_succ]
  refine wpAnyH_ready (rs := [8]) (by kernel_rfl) (by simp) ?_
  refine AllReadyH.cons rfl (fun K hK => ?_) AllReadyH.nil
  go_simp
  with_reducible refine GK.out.mono ?_
  rintro e w1 ⟨rfl, rfl⟩
  clear GK
  refine hK.out _ _ (⟨S0.out.req.cell 0, S0.out.req.cell 1⟩) (fun hHeld => ?_)
  clear hK K
  try simp only [Act.put, List.setIfInBounds_toArray, List.set_cons_zero, List.set_cons_succ]
  refine take_on (i := 9) (some 12) (v := ?vr115) rfl rfl (by kernel_rfl) (by kernel_rfl) (by kernel_rfl) (fun _ _ _ h => h) (by rfl) ?hyr115 (by with_reducible exact hHeld) ?restr115
  case hyr115 => (intro wS hSw; (try dsimp only at hSw); go_simp; try with_reducible rfl)
  try simp only [Act.put, List.setIfInBounds_toArray, List.set_cons_zero, List.set_cons_succ]
  refine take_on (i := 10) (some 2) (v := ?vr116) rfl rfl (by kernel_rfl) (by kernel_rfl) (by kernel_rfl) (fun _ _ _ h => h) (by rfl) ?hyr116 (by with_reducible exact hHeld) ?restr116
  case hyr116 => (intro wS hSw; (try dsimp only at hSw); go_simp; try with_reducible rfl)
  try simp only [Act.put, List.setIfInBounds_toArray, List.set_cons_zero, List.set_cons_succ]
  refine wpAnyH_done (by kernel_rfl) ?_ _
  refine NoPanic.normal ?_
  by_cases hx : 0 ≤ ex ∧ ex < (n : Int)
  case neg =>
    obtain rfl : kb = false := by
      rw [HKB.out, Bool.and_eq_false_iff]
      by_cases h1 : 0 ≤ ex
      · exact .inr (decide_eq_false fun h2 => hx ⟨h1, h2⟩)
      · exact .inl (decide_eq_false h1)
    have S1 := Lib.hid (S0.out.err1 2)
    have HX := Lib.hid hx
    have q6d : w.drew.cell? ⟨Q, 6, none⟩ = some (.int .i64 0) := q6
    have q2d : w.drew.cell? ⟨Q, 2, none⟩ = some (.int .i64 mode) := q2
    clear hx
    go_wp2
    go_end0
    exact ⟨rfl, by rw [if_pos HX.out]; exact S1.out⟩
  obtain rfl : kb = true := by rw [HKB.out, decide_eq_true hx.1, decide_eq_true hx.2]; rfl
  obtain ⟨x, hxe⟩ : ∃ x : Nat, ex = (x : Int) := ⟨ex.toNat, by omega⟩
  subst hxe
  have hxn : x < n := by omega
  have HX := Lib.hid hx
  have hx2 : (x : Int) < (n : Int) := hx.2
  have i0 : x * 2 < 2 * n := by omega
  have i1 : x * 2 + 1 < 2 * n := by omega
  have S1 := Lib.hid (S0.out.below (Below.refl w.drew.heap.size w.drew).drew)
  clear hx q6 f6 q2 f2 HS
  go_wp2_with fail
  have gl1 := Lib.hid (leave_any base T E n Q x most (x : Int) mode owner false 0 V gv wait L gl w.drew.drew hxn S1.out.fresh (by have h1 := hb _ i0; have h2 := hbr _ i1 (by omega); omega) (by have h2 := hbr _ i1 (by omega); omega) hbg hw)
  refine wp_region_noPanic ?_
  refine wp_region_held_drew (S := fun w' => w'.cell? ⟨Q, 0, none⟩ = some (.pointer (some ⟨T, 0, none⟩)) ∧ w'.cell? ⟨Q, 1, none⟩ = some (.int .i64 (x : Int)) ∧ w'.cell? ⟨T, 2, none⟩ = some (.slice (some ⟨E, 0, none⟩) n n)) (by kernel_rfl) (⟨S1.out.req.cell 0, S1.out.req.cell 1, S1.out.tab.tb.cell 2⟩) (fun hHeld => ?_)
  refine take_on (i := 0) (some 17) (v := ?vr117) rfl rfl (by kernel_rfl) (by kernel_rfl) (by kernel_rfl) (fun _ _ _ h => h) (by rfl) ?hyr117 (by with_reducible exact hHeld) ?restr117
  case hyr117 => (intro wS hSw; (try dsimp only at hSw); go_simp; try with_reducible rfl)
  try simp only [Act.put, List.setIfInBounds_toArray, List.set_cons_zero, List.set_cons_succ]
  refine take_on (i := 1) (some 18) (v := ?vr118) rfl rfl (by kernel_rfl) (by kernel_rfl) (by kernel_rfl) (fun _ _ _ h => h) (by rfl) ?hyr118 (by with_reducible exact hHeld) ?restr118
  case hyr118 => (intro wS hSw; (try dsimp only at hSw); go_simp; try with_reducible rfl)
  try simp only [Act.put, List.setIfInBounds_toArray, List.set_cons_zero, List.set_cons_succ]
  refine take_on (i := 2) (some 19) (v := ?vr119) rfl rfl (by kernel_rfl) (by kernel_rfl) (by kernel_rfl) (fun _ _ _ h => h) (by rfl) ?hyr119 (by with_reducible exact hHeld) ?restr119
  case hyr119 => (intro wS hSw; (try dsimp only at hSw); go_simp; try with_reducible rfl)
  try simp only [Act.put, List.setIfInBounds_toArray, List.set_cons_zero, List.set_cons_succ]
  refine take_on (i := 3) (some 20) (v := ?vr120) rfl rfl (by kernel_rfl) (by kernel_rfl) (by kernel_rfl) (fun _ _ _ h => h) (by rfl) ?hyr120 (by with_reducible exact hHeld) ?restr120
  case hyr120 => (intro wS hSw; (try dsimp only at hSw); go_simp; try with_reducible rfl)
  try simp only [Act.put, List.setIfInBounds_toArray, List.set_cons_zero, List.set_cons_succ]
  refine take_on (i := 4) (some 21) (v := ?vr121) rfl rfl (by kernel_rfl) (by kernel_rfl) (by kernel_rfl) (fun _ _ _ h => h) (by rfl) ?hyr121 (by with_reducible exact hHeld) ?restr121
  case hyr121 => (intro wS hSw; (try dsimp only at hSw); go_simp; try with_reducible rfl)
  try simp only [Act.put, List.setIfInBounds_toArray, List.set_cons_zero, List.set_cons_succ]
  refine take_on (i := 5) (some 22) (v := ?vr122) rfl rfl (by kernel_rfl) (by kernel_rfl) (by kernel_rfl) (fun _ _ _ h => h) (by rfl) ?hyr122 (by with_reducible exact hHeld) ?restr122
  case hyr122 => (intro wS hSw; (try dsimp only at hSw); go_simp; try with_reducible rfl)
  try simp only [Act.put, List.setIfInBounds_toArray, List.set_cons_zero, List.set_cons_succ]
  refine take_on (i := 6) (some 23) (v := ?vr123) rfl rfl (by kernel_rfl) (by kernel_rfl) (by kernel_rfl) (fun _ _ _ h => h) (by rfl) ?hyr123 (by with_reducible exact hHeld) ?restr123
  case hyr123 => (intro wS hSw; (try dsimp only at hSw); go_simp; try with_reducible rfl)
  try simp only [Act.put, List.setIfInBounds_toArray, List.set_cons_zero, List.set_cons_succ]
  refine take_on (i := 7) (some 24) (v := ?vr124) rfl rfl (by kernel_rfl) (by kernel_rfl) (by kernel_rfl) (fun _ _ _ h => h) (by rfl) ?hyr124 (by with_reducible exact hHeld) ?restr124
  case hyr124 => (intro wS hSw; (try dsimp only at hSw); go_simp; try with_reducible rfl)
  try simp only [Act.put, List.setIfInBounds_toArray, List.set_cons_zero, List.set_cons_succ]
  refine take_on (i := 8) (some 25) (v := ?vr125) rfl rfl (by kernel_rfl) (by kernel_rfl) (by kernel_rfl) (fun _ _ _ h => h) (by rfl) ?hyr125 (by with_reducible exact hHeld) ?restr125
  case hyr125 => (intro wS hSw; (try dsimp only at hSw); go_simp; try with_reducible rfl)
  try simp only [Act.put, List.setIfInBounds_toArray, List.set_cons_zero, List.set_cons_succ]
  refine take_on (i := 9) (some 26) (v := ?vr126) rfl rfl (by kernel_rfl) (by kernel_rfl) (by kernel_rfl) (fun _ _ _ h => h) (by rfl) ?hyr126 (by with_reducible exact hHeld) ?restr126
  case hyr126 => (intro wS hSw; (try dsimp only at hSw); go_simp; try with_reducible rfl)
  try simp only [Act.put, List.setIfInBounds_toArray, List.set_cons_zero, List.set_cons_succ]
  refine take_on (i := 10) (some 27) (v := ?vr127) rfl rfl (by kernel_rfl) (by kernel_rfl) (by kernel_rfl) (fun _ _ _ h => h) (by rfl) ?hyr127 (by with_reducible exact hHeld) ?restr127
  case hyr127 => (intro wS hSw; (try dsimp only at hSw); go_simp; try with_reducible rfl)
  try simp only [Act.put, List.setIfInBounds_toArray, List.set_cons_zero, List.set_cons_succ]
  refine take_on (i := 11) (some 28) (v := ?vr128) rfl rfl (by kernel_rfl) (by kernel_rfl) (by kernel_rfl) (fun _ _ _ h => h) (by rfl) ?hyr128 (by with_reducible exact hHeld) ?restr128
  case hyr128 => (intro wS hSw; (try dsimp only at hSw); go_simp; try with_reducible rfl)
  try simp only [Act.put, List.setIfInBounds_toArray, List.set_cons_zero, List.set_cons_succ]
  refine take_on (i := 12) (some 29) (v := ?vr129) rfl rfl (by kernel_rfl) (by kernel_rfl) (by kernel_rfl) (fun _ _ _ h => h) (by rfl) ?hyr129 (by with_reducible exact hHeld) ?restr129
  case hyr129 => (intro wS hSw; (try dsimp only at hSw); go_simp; try with_reducible rfl)
  try simp only [Act.put, List.setIfInBounds_toArray, List.set_cons_zero, List.set_cons_succ]
  obtain ⟨lo, hlo⟩ : ∃ lo, lo = leaveL (L (x * 2)) (L (x * 2 + 1)) owner := ⟨_, rfl⟩
  have HLO := Lib.hid hlo
  clear hlo
  refine wpAnyH_ready (rs := [13]) (by kernel_rfl) (by simp) ?_
  refine AllReadyH.cons rfl (fun K hK => ?_) AllReadyH.nil
  go_simp
  refine gl1.out.mono ?_
  rintro e w3 hpost
  unfold LvPost at hpost
  rw [← HLO.out] at hpost
  cases lo with
  | none =>
    obtain ⟨rfl, hB3⟩ := hpost
    have S3 := Lib.hid (S1.out.below hB3)
    refine hK.out _ _ ⟨S3.out.req.cell 0, S3.out.req.cell 1, S3.out.tab.tb.cell 2⟩ (fun hHeld => ?_)
    clear hK K
    try simp only [Act.put, List.setIfInBounds_toArray, List.set_cons_zero, List.set_cons_succ]
    refine take_on (i := 14) (some 31) (v := ?vr130) rfl rfl (by kernel_rfl) (by kernel_rfl) (by kernel_rfl) (fun _ _ _ h => h) (by rfl) ?hyr130 (by with_reducible exact hHeld) ?restr130
    case hyr130 => (intro wS hSw; (try dsimp only at hSw); go_simp; try with_reducible rfl)
    try simp only [Act.put, List.setIfInBounds_toArray, List.set_cons_zero, List.set_cons_succ]
    refine take_on (i := 15) (some 16) (v := ?vr131) rfl rfl (by kernel_rfl) (by kernel_rfl) (by kernel_rfl) (fun _ _ _ h => h) (by rfl) ?hyr131 (by with_reducible exact hHeld) ?restr131
    case hyr131 => (intro wS hSw; (try dsimp only at hSw); go_simp; try with_reducible rfl)
    try simp only [Act.put, List.setIfInBounds_toArray, List.set_cons_zero, List.set_cons_succ]
    refine wpAnyH_done (by kernel_rfl) ?_ _
    refine NoPanic.normal ?_
    have qe : w3.cell? ⟨Q, 6, none⟩ = some (.int .i64 0) := S3.out.req.cell 6
    have fe := S3.out.req.frozen 6
    have SE := Lib.hid (S3.out.err1 92)
    go_wp2
    go_end0
    refine ⟨rfl, ?_⟩
    rw [if_neg (fun h => h HX.out), Int.toNat_natCast, ← HLO.out]
    exact SE.out
  | some q =>
    obtain ⟨rfl, V', gv', hSq⟩ := hpost
    have S3 := Lib.hid (S1.out.comp hSq)
    refine hK.out _ _ ⟨S3.out.req.cell 0, S3.out.req.cell 1, S3.out.tab.tb.cell 2⟩ (fun hHeld => ?_)
    clear hK K
    try simp only [Act.put, List.setIfInBounds_toArray, List.set_cons_zero, List.set_cons_succ]
    refine take_on (i := 14) (some 31) (v := ?vr132) rfl rfl (by kernel_rfl) (by kernel_rfl) (by kernel_rfl) (fun _ _ _ h => h) (by rfl) ?hyr132 (by with_reducible exact hHeld) ?restr132
    case hyr132 => (intro wS hSw; (try dsimp only at hSw); go_simp; try with_reducible rfl)
    try simp only [Act.put, List.setIfInBounds_toArray, List.set_cons_zero, List.set_cons_succ]
    refine take_on (i := 15) (some 16) (v := ?vr133) rfl rfl (by kernel_rfl) (by kernel_rfl) (by kernel_rfl) (fun _ _ _ h => h) (by rfl) ?hyr133 (by with_reducible exact hHeld) ?restr133
    case hyr133 => (intro wS hSw; (try dsimp only at hSw); go_simp; try with_reducible rfl)
    try simp only [Act.put, List.setIfInBounds_toArray, List.set_cons_zero, List.set_cons_succ]
    refine wpAnyH_done (by kernel_rfl) ?_ _
    refine NoPanic.normal ?_
    go_wp2
    go_end0
    refine ⟨rfl, ?_⟩
    rw [if_neg (fun h => h HX.out), Int.toNat_natCast, ← HLO.out]
    exact ⟨V', gv', S3.out⟩
set_option maxRecDepth 20000 in
set_option maxHeartbeats 16000000 in
theorem list_any (base T E n Q : Nat) (most ex mode owner : Int) (V : Nat → Value) (gv : Value) (wait : Int) (L : Nat → List Pl) (gl : List Int) (w : World) (hS : LvS base w w T E n Q most ex mode owner false 0 V gv wait V L gv gl)
    (hn : n ≤ 4096) (hb : ∀ i, i < 2 * n → (L i).length ≤ 4000000000000) :
    Calls Try.prog 34 #[.pointer (some ⟨Q, 0, none⟩)] w (ListPost base w T E n Q most ex mode owner V gv wait L gl) := by
  have q6 : w.cell? ⟨Q, 6, none⟩ = some (.int .i64 0) := hS.req.cell 6
  have f6 := hS.req.frozen 6
  have q2 : w.cell? ⟨Q, 2, none⟩ = some (.int .i64 mode) := hS.req.cell 2
  have f2 := hS.req.frozen 2
  have HS := Lib.hid hS
  have S0 := Lib.hid (hS.below (Below.refl w.heap.size w).drew)
  have gk := known_any T E n ex w.drew (by omega) (hS.tab.tb.cell 2)
  obtain ⟨kb, hkb⟩ : ∃ kb, kb = (decide (0 ≤ ex) && decide (ex < (n : Int))) := ⟨_, rfl⟩
  rw [← hkb] at gk
  have GK := Lib.hid gk
  have HKB := Lib.hid hkb
  clear hS hkb gk
  go_enter Try.func34, Try.ntmps34
  go_wp2_with fail
  refine wp_region_noPanic ?_
  refine wp_region_held_drew (S := fun w' => w'.cell? ⟨Q, 0, none⟩ = some (.pointer (some ⟨T, 0, none⟩)) ∧ w'.cell? ⟨Q, 1, none⟩ = some (.int .i64 ex)) (by kernel_rfl) (⟨HS.out.req.cell 0, HS.out.req.cell 1⟩) (fun hHeld => ?_)
  refine take_on (i := 0) (some 3) (v := ?vr134) rfl rfl (by kernel_rfl) (by kernel_rfl) (by kernel_rfl) (fun _ _ _ h => h) (by rfl) ?hyr134 (by with_reducible exact hHeld) ?restr134
  case hyr134 => (intro wS hSw; (try dsimp only at hSw); go_simp; try with_reducible rfl)
  try simp only [Act.put, List.setIfInBounds_toArray, List.set_cons_zero, List.set_cons_succ]
  refine take_on (i := 1) (some 4) (v := ?vr135) rfl rfl (by kernel_rfl) (by kernel_rfl) (by kernel_rfl) (fun _ _ _ h => h) (by rfl) ?hyr135 (by with_reducible exact hHeld) ?restr135
  case hyr135 => (intro wS hSw; (try dsimp only at hSw); go_simp; try with_reducible rfl)
  try simp only [Act.put, List.setIfInBounds_toArray, List.set_cons_zero, List.set_cons_succ]
  refine take_on (i := 2) (some 5) (v := ?vr136) rfl rfl (by kernel_rfl) (by kernel_rfl) (by kernel_rfl) (fun _ _ _ h => h) (by rfl) ?hyr136 (by with_reducible exact hHeld) ?restr136
  case hyr136 => (intro wS hSw; (try dsimp only at hSw); go_simp; try with_reducible rfl)
  try simp only [Act.put, List.setIfInBounds_toArray, List.set_cons_zero, List.set_cons_succ]
  refine take_on (i := 3) (some 6) (v := ?vr137) rfl rfl (by kernel_rfl) (by kernel_rfl) (by kernel_rfl) (fun _ _ _ h => h) (by rfl) ?hyr137 (by with_reducible exact hHeld) ?restr137
  case hyr137 => (intro wS hSw; (try dsimp only at hSw); go_simp; try with_reducible rfl)
  try simp only [Act.put, List.setIfInBounds_toArray, List.set_cons_zero, List.set_cons_succ]
  refine take_on (i := 4) (some 7) (v := ?vr138) rfl rfl (by kernel_rfl) (by kernel_rfl) (by kernel_rfl) (fun _ _ _ h => h) (by rfl) ?hyr138 (by with_reducible exact hHeld) ?restr138
  case hyr138 => (intro wS hSw; (try dsimp only at hSw); go_simp; try with_reducible rfl)
  try simp only [Act.put, List.setIfInBounds_toArray, List.set_cons_zero, List.set_cons_succ]
  refine take_on (i := 5) (some 8) (v := ?vr139) rfl rfl (by kernel_rfl) (by kernel_rfl) (by kernel_rfl) (fun _ _ _ h => h) (by rfl) ?hyr139 (by with_reducible exact hHeld) ?restr139
  case hyr139 => (intro wS hSw; (try dsimp only at hSw); go_simp; try with_reducible rfl)
  try simp only [Act.put, List.setIfInBounds_toArray, List.set_cons_zero, List.set_cons_succ]
  refine take_on (i := 6) (some 9) (v := ?vr140) rfl rfl (by kernel_rfl) (by kernel_rfl) (by kernel_rfl) (fun _ _ _ h => h) (by rfl) ?hyr140 (by with_reducible exact hHeld) ?restr140
  case hyr140 => (intro wS hSw; (try dsimp only at hSw); go_simp; try with_reducible rfl)
  try simp only [Act.put, List.setIfInBounds_toArray, List.set_cons_zero, List.set_cons_succ]
  refine take_on (i := 7) (some 10) (v := ?vr141) rfl rfl (by kernel_rfl) (by kernel_rfl) (by kernel_rfl) (fun _ _ _ h => h) (by rfl) ?hyr141 (by with_reducible exact hHeld) ?restr141
  case hyr141 => (intro wS hSw; (try dsimp only at hSw); go_simp; try with_reducible rfl)
  try simp only [Act.put, List.setIfInBounds_toArray, List.set_cons_zero, List.set_cons_succ]
  refine wpAnyH_ready (rs := [8]) (by kernel_rfl) (by simp) ?_
  refine AllReadyH.cons rfl (fun K hK => ?_) AllReadyH.nil
  go_simp
  with_reducible refine GK.out.mono ?_
  rintro e w1 ⟨rfl, rfl⟩
  clear GK
  refine hK.out _ _ (⟨S0.out.req.cell 0, S0.out.req.cell 1⟩) (fun hHeld => ?_)
  clear hK K
  try simp only [Act.put, List.setIfInBounds_toArray, List.set_cons_zero, List.set_cons_succ]
  refine take_on (i := 9) (some 12) (v := ?vr142) rfl rfl (by kernel_rfl) (by kernel_rfl) (by kernel_rfl) (fun _ _ _ h => h) (by rfl) ?hyr142 (by with_reducible exact hHeld) ?restr142
  case hyr142 => (intro wS hSw; (try dsimp only at hSw); go_simp; try with_reducible rfl)
  try simp only [Act.put, List.setIfInBounds_toArray, List.set_cons_zero, List.set_cons_succ]
  refine wpAnyH_done (by kernel_rfl) ?_ _
  refine NoPanic.normal ?_
  by_cases hx : 0 ≤ ex ∧ ex < (n : Int)
  case neg =>
    obtain rfl : kb = false := by
      rw [HKB.out, Bool.and_eq_false_iff]
      by_cases h1 : 0 ≤ ex
      · exact .inr (decide_eq_false fun h2 => hx ⟨h1, h2⟩)
      · exact .inl (decide_eq_false h1)
    have S1 := Lib.hid ((S0.out.err1 2).mode1 0)
    have HX := Lib.hid hx
    have q6d : w.drew.cell? ⟨Q, 6, none⟩ = some (.int .i64 0) := q6
    have q2d : w.drew.cell? ⟨Q, 2, none⟩ = some (.int .i64 mode) := q2
    clear hx
    go_wp2
    go_end0
    exact ⟨rfl, by rw [if_pos HX.out]; exact S1.out⟩
  obtain rfl : kb = true := by rw [HKB.out, decide_eq_true hx.1, decide_eq_true hx.2]; rfl
  obtain ⟨x, hxe⟩ : ∃ x : Nat, ex = (x : Int) := ⟨ex.toNat, by omega⟩
  subst hxe
  have hxn : x < n := by omega
  have HX := Lib.hid hx
  have hx2 : (x : Int) < (n : Int) := hx.2
  have i0 : x * 2 < 2 * n := by omega
  have i1 : x * 2 + 1 < 2 * n := by omega
  have S1 := Lib.hid (S0.out.below (Below.refl w.drew.heap.size w.drew).drew)
  clear hx q6 f6 q2 f2 HS
  go_wp2_with fail
  refine wp_region_noPanic ?_
  refine wp_region_held_drew (S := fun w' => w'.cell? ⟨Q, 0, none⟩ = some (.pointer (some ⟨T, 0, none⟩)) ∧ w'.cell? ⟨Q, 1, none⟩ = some (.int .i64 (x : Int)) ∧ w'.cell? ⟨T, 2, none⟩ = some (.slice (some ⟨E, 0, none⟩) n n)) (by kernel_rfl) (⟨S1.out.req.cell 0, S1.out.req.cell 1, S1.out.tab.tb.cell 2⟩) (fun hHeld => ?_)
  refine take_on (i := 0) (some 19) (v := ?vr143) rfl rfl (by kernel_rfl) (by kernel_rfl) (by kernel_rfl) (fun _ _ _ h => h) (by rfl) ?hyr143 (by with_reducible exact hHeld) ?restr143
  case hyr143 => (intro wS hSw; (try dsimp only at hSw); go_simp; try with_reducible rfl)
  try simp only [Act.put, List.setIfInBounds_toArray, List.set_cons_zero, List.set_cons_succ]
  refine take_on (i := 1) (some 20) (v := ?vr144) rfl rfl (by kernel_rfl) (by kernel_rfl) (by kernel_rfl) (fun _ _ _ h => h) (by rfl) ?hyr144 (by with_reducible exact hHeld) ?restr144
  case hyr144 => (intro wS hSw; (try dsimp only at hSw); go_simp; try with_reducible rfl)
  try simp only [Act.put, List.setIfInBounds_toArray, List.set_cons_zero, List.set_cons_succ]
  refine take_on (i := 2) (some 21) (v := ?vr145) rfl rfl (by kernel_rfl) (by kernel_rfl) (by kernel_rfl) (fun _ _ _ h => h) (by rfl) ?hyr145 (by with_reducible exact hHeld) ?restr145
  case hyr145 => (intro wS hSw; (try dsimp only at hSw); go_simp; try with_reducible rfl)
  try simp only [Act.put, List.setIfInBounds_toArray, List.set_cons_zero, List.set_cons_succ]
  refine take_on (i := 3) (some 22) (v := ?vr146) rfl rfl (by kernel_rfl) (by kernel_rfl) (by kernel_rfl) (fun _ _ _ h => h) (by rfl) ?hyr146 (by with_reducible exact hHeld) ?restr146
  case hyr146 => (intro wS hSw; (try dsimp only at hSw); go_simp; try with_reducible rfl)
  try simp only [Act.put, List.setIfInBounds_toArray, List.set_cons_zero, List.set_cons_succ]
  refine take_on (i := 4) (some 23) (v := ?vr147) rfl rfl (by kernel_rfl) (by kernel_rfl) (by kernel_rfl) (fun _ _ _ h => h) (by rfl) ?hyr147 (by with_reducible exact hHeld) ?restr147
  case hyr147 => (intro wS hSw; (try dsimp only at hSw); go_simp; try with_reducible rfl)
  try simp only [Act.put, List.setIfInBounds_toArray, List.set_cons_zero, List.set_cons_succ]
  refine take_on (i := 5) (some 24) (v := ?vr148) rfl rfl (by kernel_rfl) (by kernel_rfl) (by kernel_rfl) (fun _ _ _ h => h) (by rfl) ?hyr148 (by with_reducible exact hHeld) ?restr148
  case hyr148 => (intro wS hSw; (try dsimp only at hSw); go_simp; try with_reducible rfl)
  try simp only [Act.put, List.setIfInBounds_toArray, List.set_cons_zero, List.set_cons_succ]
  refine take_on (i := 6) (some 25) (v := ?vr149) rfl rfl (by kernel_rfl) (by kernel_rfl) (by kernel_rfl) (fun _ _ _ h => h) (by rfl) ?hyr149 (by with_reducible exact hHeld) ?restr149
  case hyr149 => (intro wS hSw; (try dsimp only at hSw); go_simp; try with_reducible rfl)
  try simp only [Act.put, List.setIfInBounds_toArray, List.set_cons_zero, List.set_cons_succ]
  refine take_on (i := 7) (some 26) (v := ?vr150) rfl rfl (by kernel_rfl) (by kernel_rfl) (by kernel_rfl) (fun _ _ _ h => h) (by rfl) ?hyr150 (by with_reducible exact hHeld) ?restr150
  case hyr150 => (intro wS hSw; (try dsimp only at hSw); go_simp; try with_reducible rfl)
  try simp only [Act.put, List.setIfInBounds_toArray, List.set_cons_zero, List.set_cons_succ]
  refine take_on (i := 8) (some 27) (v := ?vr151) rfl rfl (by kernel_rfl) (by kernel_rfl) (by kernel_rfl) (fun _ _ _ h => h) (by rfl) ?hyr151 (by with_reducible exact hHeld) ?restr151
  case hyr151 => (intro wS hSw; (try dsimp only at hSw); go_simp; try with_reducible rfl)
  try simp only [Act.put, List.setIfInBounds_toArray, List.set_cons_zero, List.set_cons_succ]
  refine take_on (i := 9) (some 28) (v := ?vr152) rfl rfl (by kernel_rfl) (by kernel_rfl) (by kernel_rfl) (fun _ _ _ h => h) (by rfl) ?hyr152 (by with_reducible exact hHeld) ?restr152
  case hyr152 => (intro wS hSw; (try dsimp only at hSw); go_simp; try with_reducible rfl)
  try simp only [Act.put, List.setIfInBounds_toArray, List.set_cons_zero, List.set_cons_succ]
  refine take_on (i := 10) (some 29) (v := ?vr153) rfl rfl (by kernel_rfl) (by kernel_rfl) (by kernel_rfl) (fun _ _ _ h => h) (by rfl) ?hyr153 (by with_reducible exact hHeld) ?restr153
  case hyr153 => (intro wS hSw; (try dsimp only at hSw); go_simp; try with_reducible rfl)
  try simp only [Act.put, List.setIfInBounds_toArray, List.set_cons_zero, List.set_cons_succ]
  refine take_on (i := 11) (some 30) (v := ?vr154) rfl rfl (by kernel_rfl) (by kernel_rfl) (by kernel_rfl) (fun _ _ _ h => h) (by rfl) ?hyr154 (by with_reducible exact hHeld) ?restr154
  case hyr154 => (intro wS hSw; (try dsimp only at hSw); go_simp; try with_reducible rfl)
  try simp only [Act.put, List.setIfInBounds_toArray, List.set_cons_zero, List.set_cons_succ]
  refine take_on (i := 12) (some 2) (v := ?vr155) rfl rfl (by kernel_rfl) (by kernel_rfl) (by kernel_rfl) (fun _ _ _ h => h) (by rfl) ?hyr155 (by with_reducible exact hHeld) ?restr155
  case hyr155 => (intro wS hSw; (try dsimp only at hSw); go_simp; try with_reducible rfl)
  try simp only [Act.put, List.setIfInBounds_toArray, List.set_cons_zero, List.set_cons_succ]
  refine wpAnyH_done (by kernel_rfl) ?_ _
  refine NoPanic.normal ?_
  obtain ⟨W, hW⟩ : ∃ W, W = w.drew.drew := ⟨_, rfl⟩
  rw [← hW] at S1 ⊢
  have hwW : w.heap.size ≤ W.heap.size := by rw [hW]; exact Nat.le_refl _
  clear hW S0
  obtain ⟨Ah, ch, eh, hGh, _⟩ := S1.out.tab.own (x * 2) i0
  obtain ⟨nh, hnh⟩ : ∃ k, k = (L (x * 2)).length := ⟨_, rfl⟩
  rw [← hnh] at eh
  have xh : W.cell? ⟨E, x * 2, none⟩ = some (.slice Ah nh ch) := by rw [S1.out.tab.cell i0, eh]
  have hbh : nh ≤ 4000000000000 := by rw [hnh]; exact hb _ i0
  have goh := Lib.hid (owners_any Ah ch nh (L (x * 2)) W hnh.symm (by omega) hGh.rds)
  have Gh := Lib.hid hGh
  have HNh := Lib.hid hnh
  have EEh := Lib.hid eh
  clear hGh hnh eh
  obtain ⟨Ar, cr, er, hGr, _⟩ := S1.out.tab.own (x * 2 + 1) i1
  obtain ⟨nr, hnr⟩ : ∃ k, k = (L (x * 2 + 1)).length := ⟨_, rfl⟩
  rw [← hnr] at er
  have xr : W.cell? ⟨E, x * 2 + 1, none⟩ = some (.slice Ar nr cr) := by rw [S1.out.tab.cell i1, er]
  have hbr : nr ≤ 4000000000000 := by rw [hnr]; exact hb _ i1
  have gor := Lib.hid (owners_any Ar cr nr (L (x * 2 + 1)) W hnr.symm (by omega) hGr.rds)
  have Gr := Lib.hid hGr
  have HNr := Lib.hid hnr
  have EEr := Lib.hid er
  clear hGr hnr er
  have xq2 : W.cell? ⟨Q, 2, none⟩ = some (.int .i64 mode) := S1.out.req.cell 2
  by_cases hm : mode = 1
  · subst hm
    go_wp2_with fail
    refine gor.out.mono ?_
    rintro e w3 ⟨v, rfl, ov, hB3⟩
    have hvk : ∀ k, v.ownBlock = some k → w.heap.size ≤ k := fun k e => by have := (ov.lt k e).1; omega
    have hbase : base ≤ W.heap.size := by have h5 := S1.out.tab.fpLt (k := E) (.inr (.inl rfl)); omega
    have S3 := Lib.hid (S1.out.below hB3)
    have SG := Lib.hid (S3.out.gnew (OwnI.of_own (ov.lower (base' := base) hbase)) hvk)
    have qg : w3.cell? ⟨Q, 4, none⟩ = some gv := S3.out.req.cell 4
    have fg := S3.out.req.frozen 4
    obtain ⟨Av, cv, ev, _, _, _⟩ := ov.slice
    rw [List.length_map] at ev
    subst ev
    clear ov hB3 hvk gor
    go_wp2
    go_end0
    refine ⟨rfl, ?_⟩
    rw [if_neg (fun h => h HX.out), if_pos rfl, Int.toNat_natCast]
    exact ⟨_, SG.out⟩
  · have hm1 : (mode == 1) = false := by rw [beq_eq_false_iff_ne]; exact hm
    have HM := Lib.hid hm
    clear hm
    go_wp2_with fail
    refine goh.out.mono ?_
    rintro e w3 ⟨v, rfl, ov, hB3⟩
    have hvk : ∀ k, v.ownBlock = some k → w.heap.size ≤ k := fun k e => by have := (ov.lt k e).1; omega
    have hbase : base ≤ W.heap.size := by have h5 := S1.out.tab.fpLt (k := E) (.inr (.inl rfl)); omega
    have S3 := Lib.hid (S1.out.below hB3)
    have SG := Lib.hid (S3.out.gnew (OwnI.of_own (ov.lower (base' := base) hbase)) hvk)
    have qg : w3.cell? ⟨Q, 4, none⟩ = some gv := S3.out.req.cell 4
    have fg := S3.out.req.frozen 4
    obtain ⟨Av, cv, ev, _, _, _⟩ := ov.slice
    rw [List.length_map] at ev
    subst ev
    clear ov hB3 hvk goh
    have y0 : (w3.setCell ⟨Q, 4, none⟩ (.slice Av (L (x * 2)).length cv)).cell? ⟨E, x * 2, none⟩ = some (.slice Ah nh ch) := by rw [SG.out.tab.cell i0, EEh.out]
    have yq : (w3.setCell ⟨Q, 4, none⟩ (.slice Av (L (x * 2)).length cv)).cell? ⟨Q, 2, none⟩ = some (.int .i64 mode) := SG.out.req.cell 2
    have yf := SG.out.req.frozen 2
    obtain ⟨W3, hW3⟩ : ∃ W3, W3 = w3.setCell ⟨Q, 4, none⟩ (.slice Av (L (x * 2)).length cv) := ⟨_, rfl⟩
    have HW3 := Lib.hid hW3
    rw [← hW3] at y0 yq yf SG
    obtain ⟨hh, hhe⟩ : ∃ hh, hh = L (x * 2) := ⟨_, rfl⟩
    have HHE := Lib.hid hhe
    have hnl : nh = hh.length := by rw [hhe]; exact HNh.out
    have oo := SG.out.tab.own (x * 2) i0
    rw [← hhe] at oo
    clear hW3 hhe
    cases hh with
    | nil =>
      obtain rfl : nh = 0 := hnl
      clear oo
      go_wp2_with (rw [← HW3.out])
      go_end0
      refine ⟨rfl, ?_⟩
      rw [if_neg (fun h => h HX.out), if_neg HM.out, Int.toNat_natCast, show modeOf (L (x * 2)) mode = mode by rw [← HHE.out]; rfl]
      exact ⟨_, SG.out⟩
    | cons p q =>
      have hpn : 0 < nh := by rw [hnl]; simp
      have hpos : (0 : Int) < (nh : Int) := by omega
      obtain ⟨g, c', eo, hgo, _⟩ := oo.pos (by simp)
      rw [EEh.out] at eo
      injection eo with e1 _ e3
      subst e1
      subst e3
      have y1 : W3.cell? ⟨g, 1, none⟩ = some (.int .i64 p.2) := by simpa using rng2 hgo 1 _ rfl
      have SM := Lib.hid (SG.out.mode1 p.2)
      clear oo hnl hgo
      go_wp2_with (rw [← HW3.out])
      go_end0
      refine ⟨rfl, ?_⟩
      rw [if_neg (fun h => h HX.out), if_neg HM.out, Int.toNat_natCast, show modeOf (L (x * 2)) mode = p.2 by rw [← HHE.out]; rfl]
      exact ⟨_, SM.out⟩
end Go.Proofs.Ytkjbjfjgnponfaa
