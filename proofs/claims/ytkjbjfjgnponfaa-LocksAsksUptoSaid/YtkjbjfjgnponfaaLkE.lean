/- Package locks: acquire, by contract. -/
import Derived.Test.YtkjbjfjgnponfaaLkD
namespace Go.Proofs.Ytkjbjfjgnponfaa
open Go.RowKit
set_option linter.unusedSimpArgs false
section
variable {base : Nat} {w wr wr' : World} {T E n Q : Nat} {most ex mode owner : Int} {ok : Bool} {err : Int} {V0 : Nat → Value} {g0 : Value} {wait : Int} {V : Nat → Value} {L : Nat → List Pl} {gv : Value} {gl : List Int}
theorem LvS.reqset (h : LvS base w wr T E n Q most ex mode owner ok err V0 g0 wait V L gv gl) (i : Nat) (v : Value) {mode' : Int} {ok' : Bool} {err' : Int} (he : (reqC T ex mode owner gv ok err).setIfInBounds i v = reqC T ex mode' owner gv ok' err') :
    LvS base w (wr.setCell ⟨Q, i, none⟩ v) T E n Q most ex mode' owner ok' err' V0 g0 wait V L gv gl := by
  have hset : Chg (fun k _ => k = Q) wr (wr.setCell ⟨Q, i, none⟩ v) := Chg.setCell (fun k _ => k = Q) _ (show Q = Q from rfl) v
  refine ⟨h.tab.keep hset fun k hk j hf => ?_, by rw [← he]; exact h.req.set_ i v, h.own.chg hset fun g hg _ e => ?_, h.chg.trans hset fun k j hk hf => .inr (.inl hf), h.fp, h.gp⟩
  · obtain rfl := hf
    rcases hk with rfl | rfl | ⟨j, hj, e⟩
    · exact blk_type_ne h.req h.tab.tb (by decide) rfl
    · exact blk_type_ne h.req h.tab.ex (by decide) rfl
    · obtain ⟨_, cs, hb⟩ := (h.tab.own j hj).blk e
      exact blk_type_ne h.req hb (by decide) rfl
  · obtain ⟨_, cs2, hb2⟩ := h.own.blk hg
    exact blk_type_ne hb2 h.req (by decide) e
theorem LvS.ok1 (h : LvS base w wr T E n Q most ex mode owner ok err V0 g0 wait V L gv gl) (b : Bool) : LvS base w (wr.setCell ⟨Q, 5, none⟩ (.bool b)) T E n Q most ex mode owner b err V0 g0 wait V L gv gl := h.reqset 5 (.bool b) rfl
theorem LvS.err1 (h : LvS base w wr T E n Q most ex mode owner ok err V0 g0 wait V L gv gl) (z : Int) : LvS base w (wr.setCell ⟨Q, 6, none⟩ (.int .i64 z)) T E n Q most ex mode owner ok z V0 g0 wait V L gv gl := h.reqset 6 (.int .i64 z) rfl
theorem LvS.mode1 (h : LvS base w wr T E n Q most ex mode owner ok err V0 g0 wait V L gv gl) (z : Int) : LvS base w (wr.setCell ⟨Q, 2, none⟩ (.int .i64 z)) T E n Q most ex z owner ok err V0 g0 wait V L gv gl := h.reqset 2 (.int .i64 z) rfl
end
/-- what acquire does at an extent that is there: holders, row, how many more wait, told yes, the error -/
def acqL (h r : List Pl) (mode owner wait most : Int) : List Pl × List Pl × Nat × Bool × Int :=
  if 0 ≤ findI h owner ∨ 0 ≤ findI r owner then (h, r, 0, false, 91)
  else if r = [] ∧ goesL h mode = true then (h ++ [(owner, mode)], r, 0, true, 0)
  else if most ≤ wait then (h, r, 0, false, 4)
  else (h, r ++ [(owner, mode)], 1, false, 0)
def AcqPost (base : Nat) (w : World) (T E n Q : Nat) (most ex mode owner : Int) (V : Nat → Value) (gv : Value) (wait : Int) (L : Nat → List Pl) (gl : List Int) (e : Ending) (w' : World) : Prop :=
  e = .returned (.tuple #[]) ∧
  if mode ≠ 1 ∧ mode ≠ 2 then LvS base w w' T E n Q most ex mode owner false 1 V gv wait V L gv gl
  else if ¬ (0 ≤ ex ∧ ex < (n : Int)) then LvS base w w' T E n Q most ex mode owner false 2 V gv wait V L gv gl
  else ∃ V', LvS base w w' T E n Q most ex mode owner (acqL (L (ex.toNat * 2)) (L (ex.toNat * 2 + 1)) mode owner wait most).2.2.2.1 (acqL (L (ex.toNat * 2)) (L (ex.toNat * 2 + 1)) mode owner wait most).2.2.2.2 V gv
    (wait + ((acqL (L (ex.toNat * 2)) (L (ex.toNat * 2 + 1)) mode owner wait most).2.2.1 : Int)) V'
    (upd (upd L (ex.toNat * 2) (acqL (L (ex.toNat * 2)) (L (ex.toNat * 2 + 1)) mode owner wait most).1) (ex.toNat * 2 + 1) (acqL (L (ex.toNat * 2)) (L (ex.toNat * 2 + 1)) mode owner wait most).2.1) gv gl
theorem acq_post {base : Nat} {w w' : World} {T E n Q x : Nat} {most mode owner : Int} {V V' : Nat → Value} {gv : Value} {wait : Int} {L : Nat → List Pl} {gl : List Int} {h' r' : List Pl} {d : Nat} {ok' : Bool} {err' : Int} (hm : ¬ (mode ≠ 1 ∧ mode ≠ 2)) (hx : 0 ≤ (x : Int) ∧ (x : Int) < (n : Int)) (ha : acqL (L (x * 2)) (L (x * 2 + 1)) mode owner wait most = (h', r', d, ok', err'))
    (hS : LvS base w w' T E n Q most (x : Int) mode owner ok' err' V gv (wait + (d : Int)) V' (upd (upd L (x * 2) h') (x * 2 + 1) r') gv gl) : AcqPost base w T E n Q most (x : Int) mode owner V gv wait L gl (.returned (.tuple #[])) w' := by
  refine ⟨rfl, ?_⟩
  rw [if_neg hm, if_neg (fun h => h hx), Int.toNat_natCast, ha]
  exact ⟨V', hS⟩
theorem upd_id2 (L : Nat → List Pl) (i j : Nat) : upd (upd L i (L i)) j (L j) = L := by rw [upd_self, upd_self]
set_option maxRecDepth 20000 in
set_option maxHeartbeats 16000000 in
theorem acquire_any (base T E n Q : Nat) (most ex mode owner : Int) (V : Nat → Value) (gv : Value) (wait : Int) (L : Nat → List Pl) (gl : List Int) (w : World) (hS : LvS base w w T E n Q most ex mode owner false 0 V gv wait V L gv gl)
    (hn : n ≤ 4096) (hb : ∀ i, i < 2 * n → (L i).length ≤ 4000000000000) (hw : 0 ≤ wait ∧ wait ≤ 1000000) :
    Calls Try.prog 35 #[.pointer (some ⟨Q, 0, none⟩)] w (AcqPost base w T E n Q most ex mode owner V gv wait L gl) := by
  have q2 : w.cell? ⟨Q, 2, none⟩ = some (.int .i64 mode) := hS.req.cell 2
  have q6 : w.cell? ⟨Q, 6, none⟩ = some (.int .i64 0) := hS.req.cell 6
  have f6 := hS.req.frozen 6
  by_cases hm : mode ≠ 1 ∧ mode ≠ 2
  · have m1 : (mode != 1) = true := by rw [bne_iff_ne]; exact hm.1
    have m2 : (mode != 2) = true := by rw [bne_iff_ne]; exact hm.2
    have HM := Lib.hid hm
    have S1 := Lib.hid (hS.err1 1)
    clear hm hS
    go_enter Try.func35, Try.ntmps35
    go_wp2
    go_end0
    exact ⟨rfl, by rw [if_pos HM.out]; exact S1.out⟩
  · have hmm : mode = 1 ∨ mode = 2 := by
      by_cases h1 : mode = 1
      · exact .inl h1
      · exact .inr (Classical.byContradiction fun h2 => hm ⟨h1, h2⟩)
    have HMM := Lib.hid hmm
    clear hmm
    have HM := Lib.hid hm
    have HS := Lib.hid hS
    have S0 := Lib.hid (hS.below (Below.refl w.heap.size w).drew)
    have gk := Lib.hid (known_any T E n ex w.drew (by omega) (hS.tab.tb.cell 2))
    obtain ⟨kb, hkb⟩ : ∃ kb, kb = (decide (0 ≤ ex) && decide (ex < (n : Int))) := ⟨_, rfl⟩
    rw [← hkb] at gk
    have HKB := Lib.hid hkb
    clear hm hS hkb
    go_enter Try.func35, Try.ntmps35
    go_upto_region 0 with fail
    go_cut [3] (fun t3 wx => t3 = .bool false ∧ w = wx)
    case first =>
      rcases HMM.out with e | e
      · subst e
        go_wp2
        go_meet
        exact ⟨rfl, rfl⟩
      · subst e
        go_wp2
        go_meet
        exact ⟨rfl, rfl⟩
    obtain ⟨rfl, rfl⟩ := hcut
    go_wp2_with fail
    refine wp_region_noPanic ?_
    refine wp_region_held_drew (S := fun w' => w'.cell? ⟨Q, 0, none⟩ = some (.pointer (some ⟨T, 0, none⟩)) ∧ w'.cell? ⟨Q, 1, none⟩ = some (.int .i64 ex)) (by kernel_rfl) (⟨HS.out.req.cell 0, HS.out.req.cell 1⟩) (fun hHeld => ?_)
    refine take_on (i := 0) (some 20) (v := ?vr1) rfl rfl (by kernel_rfl) (by kernel_rfl) (by kernel_rfl) (fun _ _ _ h => h) (by rfl) ?hyr1 (by with_reducible exact hHeld) ?restr1
    case hyr1 => (intro wS hSw; (try dsimp only at hSw); go_simp; try with_reducible rfl)
    try simp only [Act.put, List.setIfInBounds_toArray, List.set_cons_zero, List.set_cons_succ]
    refine take_on (i := 1) (some 21) (v := ?vr2) rfl rfl (by kernel_rfl) (by kernel_rfl) (by kernel_rfl) (fun _ _ _ h => h) (by rfl) ?hyr2 (by with_reducible exact hHeld) ?restr2
    case hyr2 => (intro wS hSw; (try dsimp only at hSw); go_simp; try with_reducible rfl)
    try simp only [Act.put, List.setIfInBounds_toArray, List.set_cons_zero, List.set_cons_succ]
    refine take_on (i := 2) (some 22) (v := ?vr3) rfl rfl (by kernel_rfl) (by kernel_rfl) (by kernel_rfl) (fun _ _ _ h => h) (by rfl) ?hyr3 (by with_reducible exact hHeld) ?restr3
    case hyr3 => (intro wS hSw; (try dsimp only at hSw); go_simp; try with_reducible rfl)
    try simp only [Act.put, List.setIfInBounds_toArray, List.set_cons_zero, List.set_cons_succ]
    refine take_on (i := 3) (some 23) (v := ?vr4) rfl rfl (by kernel_rfl) (by kernel_rfl) (by kernel_rfl) (fun _ _ _ h => h) (by rfl) ?hyr4 (by with_reducible exact hHeld) ?restr4
    case hyr4 => (intro wS hSw; (try dsimp only at hSw); go_simp; try with_reducible rfl)
    try simp only [Act.put, List.setIfInBounds_toArray, List.set_cons_zero, List.set_cons_succ]
    refine take_on (i := 4) (some 24) (v := ?vr5) rfl rfl (by kernel_rfl) (by kernel_rfl) (by kernel_rfl) (fun _ _ _ h => h) (by rfl) ?hyr5 (by with_reducible exact hHeld) ?restr5
    case hyr5 => (intro wS hSw; (try dsimp only at hSw); go_simp; try with_reducible rfl)
    try simp only [Act.put, List.setIfInBounds_toArray, List.set_cons_zero, List.set_cons_succ]
    refine take_on (i := 5) (some 25) (v := ?vr6) rfl rfl (by kernel_rfl) (by kernel_rfl) (by kernel_rfl) (fun _ _ _ h => h) (by rfl) ?hyr6 (by with_reducible exact hHeld) ?restr6
    case hyr6 => (intro wS hSw; (try dsimp only at hSw); go_simp; try with_reducible rfl)
    try simp only [Act.put, List.setIfInBounds_toArray, List.set_cons_zero, List.set_cons_succ]
    refine take_on (i := 6) (some 26) (v := ?vr7) rfl rfl (by kernel_rfl) (by kernel_rfl) (by kernel_rfl) (fun _ _ _ h => h) (by rfl) ?hyr7 (by with_reducible exact hHeld) ?restr7
    case hyr7 => (intro wS hSw; (try dsimp only at hSw); go_simp; try with_reducible rfl)
    try simp only [Act.put, List.setIfInBounds_toArray, List.set_cons_zero, List.set_cons_succ]
    refine take_on (i := 7) (some 27) (v := ?vr8) rfl rfl (by kernel_rfl) (by kernel_rfl) (by kernel_rfl) (fun _ _ _ h => h) (by rfl) ?hyr8 (by with_reducible exact hHeld) ?restr8
    case hyr8 => (intro wS hSw; (try dsimp only at hSw); go_simp; try with_reducible rfl)
    try simp only [Act.put, List.setIfInBounds_toArray, List.set_cons_zero, List.set_cons_succ]
    refine wpAnyH_ready (rs := [8]) (by kernel_rfl) (by simp) ?_
    refine AllReadyH.cons rfl (fun K hK => ?_) AllReadyH.nil
    go_simp
    with_reducible refine gk.out.mono ?_
    rintro e w1 ⟨rfl, rfl⟩
    clear gk
    refine hK.out _ _ (⟨S0.out.req.cell 0, S0.out.req.cell 1⟩) (fun hHeld => ?_)
    clear hK K
    try simp only [Act.put, List.setIfInBounds_toArray, List.set_cons_zero, List.set_cons_succ]
    refine take_on (i := 9) (some 29) (v := ?vr9) rfl rfl (by kernel_rfl) (by kernel_rfl) (by kernel_rfl) (fun _ _ _ h => h) (by rfl) ?hyr9 (by with_reducible exact hHeld) ?restr9
    case hyr9 => (intro wS hSw; (try dsimp only at hSw); go_simp; try with_reducible rfl)
    try simp only [Act.put, List.setIfInBounds_toArray, List.set_cons_zero, List.set_cons_succ]
    refine take_on (i := 10) (some 19) (v := ?vr10) rfl rfl (by kernel_rfl) (by kernel_rfl) (by kernel_rfl) (fun _ _ _ h => h) (by rfl) ?hyr10 (by with_reducible exact hHeld) ?restr10
    case hyr10 => (intro wS hSw; (try dsimp only at hSw); go_simp; try with_reducible rfl)
    try simp only [Act.put, List.setIfInBounds_toArray, List.set_cons_zero, List.set_cons_succ]
    refine wpAnyH_done (by kernel_rfl) ?_ _
    refine NoPanic.normal ?_
    by_cases hx : 0 ≤ ex ∧ ex < (n : Int)
    case neg =>
      obtain rfl : kb = false := by
        rw [HKB.out, Bool.and_eq_false_iff]
        by_cases h1 : 0 ≤ ex
        · exact .inr (decide_eq_false fun h2 => hx ⟨h1, h2⟩)
        · exact .inl (decide_eq_false h1)
      have S1 := Lib.hid (S0.out.err1 2)
      have HX := Lib.hid hx
      have q6d : w.drew.cell? ⟨Q, 6, none⟩ = some (.int .i64 0) := q6
      clear hx
      go_wp2
      go_end0
      exact ⟨rfl, by rw [if_neg HM.out, if_pos HX.out]; exact S1.out⟩
    obtain rfl : kb = true := by rw [HKB.out, decide_eq_true hx.1, decide_eq_true hx.2]; rfl
    obtain ⟨x, hxe⟩ : ∃ x : Nat, ex = (x : Int) := ⟨ex.toNat, by omega⟩
    subst hxe
    have hxn : x < n := by omega
    have HX := Lib.hid hx
    have hx2 : (x : Int) < (n : Int) := hx.2
    have i0 : x * 2 < 2 * n := by omega
    have i1 : x * 2 + 1 < 2 * n := by omega
    have ct2 : w.drew.cell? ⟨T, 2, none⟩ = some (.slice (some ⟨E, 0, none⟩) n n) := S0.out.tab.tb.cell 2
    have cq0 : w.drew.cell? ⟨Q, 0, none⟩ = some (.pointer (some ⟨T, 0, none⟩)) := S0.out.req.cell 0
    have cq1 : w.drew.cell? ⟨Q, 1, none⟩ = some (.int .i64 (x : Int)) := S0.out.req.cell 1
    clear hx q2 q6 f6
    have S1 := Lib.hid (S0.out.below (Below.refl w.drew.heap.size w.drew).drew)
    clear S0 HS
    go_wp2_with fail
    refine wp_region_noPanic ?_
    refine wp_region_held_drew (S := fun w' => w'.cell? ⟨Q, 0, none⟩ = some (.pointer (some ⟨T, 0, none⟩)) ∧ w'.cell? ⟨Q, 1, none⟩ = some (.int .i64 (x : Int)) ∧ w'.cell? ⟨T, 2, none⟩ = some (.slice (some ⟨E, 0, none⟩) n n)) (by kernel_rfl) (⟨cq0, cq1, ct2⟩) (fun hHeld => ?_)
    refine take_on (i := 0) (some 33) (v := ?vr11) rfl rfl (by kernel_rfl) (by kernel_rfl) (by kernel_rfl) (fun _ _ _ h => h) (by rfl) ?hyr11 (by with_reducible exact hHeld) ?restr11
    case hyr11 => (intro wS hSw; (try dsimp only at hSw); go_simp; try with_reducible rfl)
    try simp only [Act.put, List.setIfInBounds_toArray, List.set_cons_zero, List.set_cons_succ]
    refine take_on (i := 1) (some 34) (v := ?vr12) rfl rfl (by kernel_rfl) (by kernel_rfl) (by kernel_rfl) (fun _ _ _ h => h) (by rfl) ?hyr12 (by with_reducible exact hHeld) ?restr12
    case hyr12 => (intro wS hSw; (try dsimp only at hSw); go_simp; try with_reducible rfl)
    try simp only [Act.put, List.setIfInBounds_toArray, List.set_cons_zero, List.set_cons_succ]
    refine take_on (i := 2) (some 35) (v := ?vr13) rfl rfl (by kernel_rfl) (by kernel_rfl) (by kernel_rfl) (fun _ _ _ h => h) (by rfl) ?hyr13 (by with_reducible exact hHeld) ?restr13
    case hyr13 => (intro wS hSw; (try dsimp only at hSw); go_simp; try with_reducible rfl)
    try simp only [Act.put, List.setIfInBounds_toArray, List.set_cons_zero, List.set_cons_succ]
    refine take_on (i := 3) (some 36) (v := ?vr14) rfl rfl (by kernel_rfl) (by kernel_rfl) (by kernel_rfl) (fun _ _ _ h => h) (by rfl) ?hyr14 (by with_reducible exact hHeld) ?restr14
    case hyr14 => (intro wS hSw; (try dsimp only at hSw); go_simp; try with_reducible rfl)
    try simp only [Act.put, List.setIfInBounds_toArray, List.set_cons_zero, List.set_cons_succ]
    refine take_on (i := 4) (some 37) (v := ?vr15) rfl rfl (by kernel_rfl) (by kernel_rfl) (by kernel_rfl) (fun _ _ _ h => h) (by rfl) ?hyr15 (by with_reducible exact hHeld) ?restr15
    case hyr15 => (intro wS hSw; (try dsimp only at hSw); go_simp; try with_reducible rfl)
    try simp only [Act.put, List.setIfInBounds_toArray, List.set_cons_zero, List.set_cons_succ]
    refine take_on (i := 5) (some 38) (v := ?vr16) rfl rfl (by kernel_rfl) (by kernel_rfl) (by kernel_rfl) (fun _ _ _ h => h) (by rfl) ?hyr16 (by with_reducible exact hHeld) ?restr16
    case hyr16 => (intro wS hSw; (try dsimp only at hSw); go_simp; try with_reducible rfl)
    try simp only [Act.put, List.setIfInBounds_toArray, List.set_cons_zero, List.set_cons_succ]
    refine take_on (i := 6) (some 39) (v := ?vr17) rfl rfl (by kernel_rfl) (by kernel_rfl) (by kernel_rfl) (fun _ _ _ h => h) (by rfl) ?hyr17 (by with_reducible exact hHeld) ?restr17
    case hyr17 => (intro wS hSw; (try dsimp only at hSw); go_simp; try with_reducible rfl)
    try simp only [Act.put, List.setIfInBounds_toArray, List.set_cons_zero, List.set_cons_succ]
    refine take_on (i := 7) (some 40) (v := ?vr18) rfl rfl (by kernel_rfl) (by kernel_rfl) (by kernel_rfl) (fun _ _ _ h => h) (by rfl) ?hyr18 (by with_reducible exact hHeld) ?restr18
    case hyr18 => (intro wS hSw; (try dsimp only at hSw); go_simp; try with_reducible rfl)
    try simp only [Act.put, List.setIfInBounds_toArray, List.set_cons_zero, List.set_cons_succ]
    refine take_on (i := 8) (some 41) (v := ?vr19) rfl rfl (by kernel_rfl) (by kernel_rfl) (by kernel_rfl) (fun _ _ _ h => h) (by rfl) ?hyr19 (by with_reducible exact hHeld) ?restr19
    case hyr19 => (intro wS hSw; (try dsimp only at hSw); go_simp; try with_reducible rfl)
    try simp only [Act.put, List.setIfInBounds_toArray, List.set_cons_zero, List.set_cons_succ]
    refine take_on (i := 9) (some 42) (v := ?vr20) rfl rfl (by kernel_rfl) (by kernel_rfl) (by kernel_rfl) (fun _ _ _ h => h) (by rfl) ?hyr20 (by with_reducible exact hHeld) ?restr20
    case hyr20 => (intro wS hSw; (try dsimp only at hSw); go_simp; try with_reducible rfl)
    try simp only [Act.put, List.setIfInBounds_toArray, List.set_cons_zero, List.set_cons_succ]
    refine take_on (i := 10) (some 43) (v := ?vr21) rfl rfl (by kernel_rfl) (by kernel_rfl) (by kernel_rfl) (fun _ _ _ h => h) (by rfl) ?hyr21 (by with_reducible exact hHeld) ?restr21
    case hyr21 => (intro wS hSw; (try dsimp only at hSw); go_simp; try with_reducible rfl)
    try simp only [Act.put, List.setIfInBounds_toArray, List.set_cons_zero, List.set_cons_succ]
    refine take_on (i := 11) (some 44) (v := ?vr22) rfl rfl (by kernel_rfl) (by kernel_rfl) (by kernel_rfl) (fun _ _ _ h => h) (by rfl) ?hyr22 (by with_reducible exact hHeld) ?restr22
    case hyr22 => (intro wS hSw; (try dsimp only at hSw); go_simp; try with_reducible rfl)
    try simp only [Act.put, List.setIfInBounds_toArray, List.set_cons_zero, List.set_cons_succ]
    refine take_on (i := 12) (some 2) (v := ?vr23) rfl rfl (by kernel_rfl) (by kernel_rfl) (by kernel_rfl) (fun _ _ _ h => h) (by rfl) ?hyr23 (by with_reducible exact hHeld) ?restr23
    case hyr23 => (intro wS hSw; (try dsimp only at hSw); go_simp; try with_reducible rfl)
    try simp only [Act.put, List.setIfInBounds_toArray, List.set_cons_zero, List.set_cons_succ]
    refine wpAnyH_done (by kernel_rfl) ?_ _
    refine NoPanic.normal ?_
    obtain ⟨W, hW⟩ : ∃ W, W = w.drew.drew := ⟨_, rfl⟩
    rw [← hW] at S1 ⊢
    have h1W : ∀ v, Below W.heap.size W v → LvS base w v T E n Q most (x : Int) mode owner false 0 V gv wait V L gv gl := fun v hB => S1.out.below hB
    have BW := Lib.hid (show Below w.heap.size w W from by rw [hW]; exact (Below.refl w.heap.size w).drew.drew)
    obtain ⟨Ah, ch, eh, hGh, hAh⟩ := S1.out.tab.own (x * 2) i0
    obtain ⟨Ar, cr, er, hGr, hAr⟩ := S1.out.tab.own (x * 2 + 1) i1
    obtain ⟨hn', hhn⟩ : ∃ k, k = (L (x * 2)).length := ⟨_, rfl⟩
    obtain ⟨rn, hrn⟩ : ∃ k, k = (L (x * 2 + 1)).length := ⟨_, rfl⟩
    rw [← hhn] at eh
    rw [← hrn] at er
    have hbh : hn' ≤ 4000000000000 := by rw [hhn]; exact hb _ i0
    have hbr : rn ≤ 4000000000000 := by rw [hrn]; exact hb _ i1
    have HHN := Lib.hid hhn
    have HRN := Lib.hid hrn
    have EH := Lib.hid eh
    have ER := Lib.hid er
    have GH := Lib.hid hGh
    have GR := Lib.hid hGr
    have ce : ∀ v, LvS base w v T E n Q most (x : Int) mode owner false 0 V gv wait V L gv gl → v.cell? ⟨E, x * 2, none⟩ = some (.slice Ah hn' ch) ∧ v.cell? ⟨E, x * 2 + 1, none⟩ = some (.slice Ar rn cr) ∧ v.cell? ⟨Q, 3, none⟩ = some (.int .i64 owner) ∧ v.cell? ⟨Q, 2, none⟩ = some (.int .i64 mode) := fun v h => ⟨by rw [h.tab.cell i0, EH.out], by rw [h.tab.cell i1, ER.out], h.req.cell 3, h.req.cell 2⟩
    have CE := Lib.hid ce
    obtain ⟨fi, hfi⟩ : ∃ fi, fi = findI (L (x * 2)) owner := ⟨_, rfl⟩
    obtain ⟨fj, hfj⟩ : ∃ fj, fj = findI (L (x * 2 + 1)) owner := ⟨_, rfl⟩
    have g1 := find_any Ah ch hn' (L (x * 2)) owner W.drew hhn.symm (by omega) hGh.rds
    rw [← hfi] at g1
    have G1 := Lib.hid g1
    have HFI := Lib.hid hfi
    have HFJ := Lib.hid hfj
    have S2 := Lib.hid (S1.out.below (Below.refl W.heap.size W).drew)
    have HL1 := Lib.hid h1W
    clear hW h1W eh er hhn hrn hGh hGr ce g1 hfi hfj cq0 cq1 ct2
    go_wp2_with fail
    by_cases c0 : 0 ≤ fi
    · have c0k := Lib.hid c0
      refine wp_region_noPanic ?_
      refine wp_region_held_drew (S := fun w' => w'.cell? ⟨E, x * 2, none⟩ = some (.slice Ah hn' ch) ∧ w'.cell? ⟨E, x * 2 + 1, none⟩ = some (.slice Ar rn cr) ∧ w'.cell? ⟨Q, 3, none⟩ = some (.int .i64 owner) ∧ w'.cell? ⟨Q, 2, none⟩ = some (.int .i64 mode)) (by kernel_rfl) (CE.out _ S2.out) (fun hHeld => ?_)
      refine take_on (i := 0) (some 74) (v := ?vr24) rfl rfl (by kernel_rfl) (by kernel_rfl) (by kernel_rfl) (fun _ _ _ h => h) (by rfl) ?hyr24 (by with_reducible exact hHeld) ?restr24
      case hyr24 => (intro wS hSw; (try dsimp only at hSw); go_simp; try with_reducible rfl)
      try simp only [Act.put, List.setIfInBounds_toArray, List.set_cons_zero, List.set_cons_succ]
      refine take_on (i := 1) (some 75) (v := ?vr25) rfl rfl (by kernel_rfl) (by kernel_rfl) (by kernel_rfl) (fun _ _ _ h => h) (by rfl) ?hyr25 (by with_reducible exact hHeld) ?restr25
      case hyr25 => (intro wS hSw; (try dsimp only at hSw); go_simp; try with_reducible rfl)
      try simp only [Act.put, List.setIfInBounds_toArray, List.set_cons_zero, List.set_cons_succ]
      refine take_on (i := 2) (some 76) (v := ?vr26) rfl rfl (by kernel_rfl) (by kernel_rfl) (by kernel_rfl) (fun _ _ _ h => h) (by rfl) ?hyr26 (by with_reducible exact hHeld) ?restr26
      case hyr26 => (intro wS hSw; (try dsimp only at hSw); go_simp; try with_reducible rfl)
      try simp only [Act.put, List.setIfInBounds_toArray, List.set_cons_zero, List.set_cons_succ]
      refine take_on (i := 3) (some 77) (v := ?vr27) rfl rfl (by kernel_rfl) (by kernel_rfl) (by kernel_rfl) (fun _ _ _ h => h) (by rfl) ?hyr27 (by with_reducible exact hHeld) ?restr27
      case hyr27 => (intro wS hSw; (try dsimp only at hSw); go_simp; try with_reducible rfl)
      try simp only [Act.put, List.setIfInBounds_toArray, List.set_cons_zero, List.set_cons_succ]
      refine take_on (i := 4) (some 78) (v := ?vr28) rfl rfl (by kernel_rfl) (by kernel_rfl) (by kernel_rfl) (fun _ _ _ h => h) (by rfl) ?hyr28 (by with_reducible exact hHeld) ?restr28
      case hyr28 => (intro wS hSw; (try dsimp only at hSw); go_simp; try with_reducible rfl)
      try simp only [Act.put, List.setIfInBounds_toArray, List.set_cons_zero, List.set_cons_succ]
      refine take_on (i := 5) (some 79) (v := ?vr29) rfl rfl (by kernel_rfl) (by kernel_rfl) (by kernel_rfl) (fun _ _ _ h => h) (by rfl) ?hyr29 (by with_reducible exact hHeld) ?restr29
      case hyr29 => (intro wS hSw; (try dsimp only at hSw); go_simp; try with_reducible rfl)
      try simp only [Act.put, List.setIfInBounds_toArray, List.set_cons_zero, List.set_cons_succ]
      refine take_on (i := 6) (some 80) (v := ?vr30) rfl rfl (by kernel_rfl) (by kernel_rfl) (by kernel_rfl) (fun _ _ _ h => h) (by rfl) ?hyr30 (by with_reducible exact hHeld) ?restr30
      case hyr30 => (intro wS hSw; (try dsimp only at hSw); go_simp; try with_reducible rfl)
      try simp only [Act.put, List.setIfInBounds_toArray, List.set_cons_zero, List.set_cons_succ]
      refine take_on (i := 7) (some 81) (v := ?vr31) rfl rfl (by kernel_rfl) (by kernel_rfl) (by kernel_rfl) (fun _ _ _ h => h) (by rfl) ?hyr31 (by with_reducible exact hHeld) ?restr31
      case hyr31 => (intro wS hSw; (try dsimp only at hSw); go_simp; try with_reducible rfl)
      try simp only [Act.put, List.setIfInBounds_toArray, List.set_cons_zero, List.set_cons_succ]
      refine wpAnyH_ready (rs := [8]) (by kernel_rfl) (by simp) ?_
      refine AllReadyH.cons rfl (fun K hK => ?_) AllReadyH.nil
      go_simp
      with_reducible refine G1.out.mono ?_
      rintro e w3 ⟨rfl, hB3⟩
      have S3 := Lib.hid (S2.out.below hB3)
      clear G1 hB3
      refine hK.out _ _ (CE.out _ S3.out) (fun hHeld => ?_)
      clear hK K
      try simp only [Act.put, List.setIfInBounds_toArray, List.set_cons_zero, List.set_cons_succ]
      refine take_on (i := 9) (some 83) (v := ?vr32) rfl rfl (by kernel_rfl) (by kernel_rfl) (by kernel_rfl) (fun _ _ _ h => h) (by rfl) ?hyr32 (by with_reducible exact hHeld) ?restr32
      case hyr32 => (intro wS hSw; (try dsimp only at hSw); go_simp; try with_reducible rfl)
      try simp only [Act.put, List.setIfInBounds_toArray, List.set_cons_zero, List.set_cons_succ]
      refine take_on (i := 10) (some 84) (v := ?vr33) rfl rfl (by kernel_rfl) (by kernel_rfl) (by kernel_rfl) (fun _ _ _ h => h) (by rfl) ?hyr33 (by with_reducible exact hHeld) ?restr33
      case hyr33 => (intro wS hSw; (try dsimp only at hSw); go_simp; try with_reducible rfl)
      try simp only [Act.put, List.setIfInBounds_toArray, List.set_cons_zero, List.set_cons_succ]
      refine take_off (i := 11) (some 85) rfl rfl (by kernel_rfl) (by kernel_rfl) (by kernel_rfl) (fun _ _ _ h => h) (by rfl) (by with_reducible exact hHeld) ?_
      try simp only [Act.put, List.setIfInBounds_toArray, List.set_cons_zero, List.set_cons_succ]
      refine take_off (i := 12) (some 86) rfl rfl (by kernel_rfl) (by kernel_rfl) (by kernel_rfl) (fun _ _ _ h => h) (by rfl) (by with_reducible exact hHeld) ?_
      try simp only [Act.put, List.setIfInBounds_toArray, List.set_cons_zero, List.set_cons_succ]
      refine take_off (i := 13) (some 87) rfl rfl (by kernel_rfl) (by kernel_rfl) (by kernel_rfl) (fun _ _ _ h => h) (by rfl) (by with_reducible exact hHeld) ?_
      try simp only [Act.put, List.setIfInBounds_toArray, List.set_cons_zero, List.set_cons_succ]
      refine take_off (i := 14) (some 88) rfl rfl (by kernel_rfl) (by kernel_rfl) (by kernel_rfl) (fun _ _ _ h => h) (by rfl) (by with_reducible exact hHeld) ?_
      try simp only [Act.put, List.setIfInBounds_toArray, List.set_cons_zero, List.set_cons_succ]
      refine take_off (i := 15) (some 89) rfl rfl (by kernel_rfl) (by kernel_rfl) (by kernel_rfl) (fun _ _ _ h => h) (by rfl) (by with_reducible exact hHeld) ?_
      try simp only [Act.put, List.setIfInBounds_toArray, List.set_cons_zero, List.set_cons_succ]
      refine take_off (i := 16) (some 90) rfl rfl (by kernel_rfl) (by kernel_rfl) (by kernel_rfl) (fun _ _ _ h => h) (by rfl) (by with_reducible exact hHeld) ?_
      try simp only [Act.put, List.setIfInBounds_toArray, List.set_cons_zero, List.set_cons_succ]
      refine take_off (i := 17) (some 91) rfl rfl (by kernel_rfl) (by kernel_rfl) (by kernel_rfl) (fun _ _ _ h => h) (by rfl) (by with_reducible exact hHeld) ?_
      try simp only [Act.put, List.setIfInBounds_toArray, List.set_cons_zero, List.set_cons_succ]
      refine take_off (i := 18) (some 92) rfl rfl (by kernel_rfl) (by kernel_rfl) (by kernel_rfl) (fun _ _ _ h => h) (by rfl) (by with_reducible exact hHeld) ?_
      try simp only [Act.put, List.setIfInBounds_toArray, List.set_cons_zero, List.set_cons_succ]
      refine take_off (i := 19) (some 93) rfl rfl (by kernel_rfl) (by kernel_rfl) (by kernel_rfl) (fun _ _ _ h => h) (by rfl) (by with_reducible exact hHeld) ?_
      try simp only [Act.put, List.setIfInBounds_toArray, List.set_cons_zero, List.set_cons_succ]
      refine take_off (i := 20) (some 94) rfl rfl (by kernel_rfl) (by kernel_rfl) (by kernel_rfl) (fun _ _ _ h => h) (by rfl) (by with_reducible exact hHeld) ?_
      try simp only [Act.put, List.setIfInBounds_toArray, List.set_cons_zero, List.set_cons_succ]
      refine take_on (i := 21) (some 95) (v := ?vr34) rfl rfl (by kernel_rfl) (by kernel_rfl) (by kernel_rfl) (fun _ _ _ h => h) (by rfl) ?hyr34 (by with_reducible exact hHeld) ?restr34
      case hyr34 => (intro wS hSw; (try dsimp only at hSw); go_simp; try with_reducible rfl)
      try simp only [Act.put, List.setIfInBounds_toArray, List.set_cons_zero, List.set_cons_succ]
      refine take_on (i := 22) (some 73) (v := ?vr35) rfl rfl (by kernel_rfl) (by kernel_rfl) (by kernel_rfl) (fun _ _ _ h => h) (by rfl) ?hyr35 (by with_reducible exact hHeld) ?restr35
      case hyr35 => (intro wS hSw; (try dsimp only at hSw); go_simp; try with_reducible rfl)
      try simp only [Act.put, List.setIfInBounds_toArray, List.set_cons_zero, List.set_cons_succ]
      refine wpAnyH_done (by kernel_rfl) ?_ _
      refine NoPanic.normal ?_
      have qe : w3.cell? ⟨Q, 6, none⟩ = some (.int .i64 0) := S3.out.req.cell 6
      have fe := S3.out.req.frozen 6
      have SE := Lib.hid (S3.out.err1 91)
      go_wp2
      go_end0
      refine acq_post (V' := V) HM.out HX.out (h' := L (x * 2)) (r' := L (x * 2 + 1)) (d := 0) (ok' := false) (err' := 91) ?_ ?_
      · unfold acqL
        rw [if_pos (by rw [← HFI.out, ← HFJ.out]; first | exact .inl c0 | exact .inr c1)]
      · rw [upd_id2]
        simpa using SE.out
    · have c0k := Lib.hid c0
      refine wp_region_noPanic ?_
      refine wp_region_held_drew (S := fun w' => w'.cell? ⟨E, x * 2, none⟩ = some (.slice Ah hn' ch) ∧ w'.cell? ⟨E, x * 2 + 1, none⟩ = some (.slice Ar rn cr) ∧ w'.cell? ⟨Q, 3, none⟩ = some (.int .i64 owner) ∧ w'.cell? ⟨Q, 2, none⟩ = some (.int .i64 mode)) (by kernel_rfl) (CE.out _ S2.out) (fun hHeld => ?_)
      refine take_on (i := 0) (some 74) (v := ?vr36) rfl rfl (by kernel_rfl) (by kernel_rfl) (by kernel_rfl) (fun _ _ _ h => h) (by rfl) ?hyr36 (by with_reducible exact hHeld) ?restr36
      case hyr36 => (intro wS hSw; (try dsimp only at hSw); go_simp; try with_reducible rfl)
      try simp only [Act.put, List.setIfInBounds_toArray, List.set_cons_zero, List.set_cons_succ]
      refine take_on (i := 1) (some 75) (v := ?vr37) rfl rfl (by kernel_rfl) (by kernel_rfl) (by kernel_rfl) (fun _ _ _ h => h) (by rfl) ?hyr37 (by with_reducible exact hHeld) ?restr37
      case hyr37 => (intro wS hSw; (try dsimp only at hSw); go_simp; try with_reducible rfl)
      try simp only [Act.put, List.setIfInBounds_toArray, List.set_cons_zero, List.set_cons_succ]
      refine take_on (i := 2) (some 76) (v := ?vr38) rfl rfl (by kernel_rfl) (by kernel_rfl) (by kernel_rfl) (fun _ _ _ h => h) (by rfl) ?hyr38 (by with_reducible exact hHeld) ?restr38
      case hyr38 => (intro wS hSw; (try dsimp only at hSw); go_simp; try with_reducible rfl)
      try simp only [Act.put, List.setIfInBounds_toArray, List.set_cons_zero, List.set_cons_succ]
      refine take_on (i := 3) (some 77) (v := ?vr39) rfl rfl (by kernel_rfl) (by kernel_rfl) (by kernel_rfl) (fun _ _ _ h => h) (by rfl) ?hyr39 (by with_reducible exact hHeld) ?restr39
      case hyr39 => (intro wS hSw; (try dsimp only at hSw); go_simp; try with_reducible rfl)
      try simp only [Act.put, List.setIfInBounds_toArray, List.set_cons_zero, List.set_cons_succ]
      refine take_on (i := 4) (some 78) (v := ?vr40) rfl rfl (by kernel_rfl) (by kernel_rfl) (by kernel_rfl) (fun _ _ _ h => h) (by rfl) ?hyr40 (by with_reducible exact hHeld) ?restr40
      case hyr40 => (intro wS hSw; (try dsimp only at hSw); go_simp; try with_reducible rfl)
      try simp only [Act.put, List.setIfInBounds_toArray, List.set_cons_zero, List.set_cons_succ]
      refine take_on (i := 5) (some 79) (v := ?vr41) rfl rfl (by kernel_rfl) (by kernel_rfl) (by kernel_rfl) (fun _ _ _ h => h) (by rfl) ?hyr41 (by with_reducible exact hHeld) ?restr41
      case hyr41 => (intro wS hSw; (try dsimp only at hSw); go_simp; try with_reducible rfl)
      try simp only [Act.put, List.setIfInBounds_toArray, List.set_cons_zero, List.set_cons_succ]
      refine take_on (i := 6) (some 80) (v := ?vr42) rfl rfl (by kernel_rfl) (by kernel_rfl) (by kernel_rfl) (fun _ _ _ h => h) (by rfl) ?hyr42 (by with_reducible exact hHeld) ?restr42
      case hyr42 => (intro wS hSw; (try dsimp only at hSw); go_simp; try with_reducible rfl)
      try simp only [Act.put, List.setIfInBounds_toArray, List.set_cons_zero, List.set_cons_succ]
      refine take_on (i := 7) (some 81) (v := ?vr43) rfl rfl (by kernel_rfl) (by kernel_rfl) (by kernel_rfl) (fun _ _ _ h => h) (by rfl) ?hyr43 (by with_reducible exact hHeld) ?restr43
      case hyr43 => (intro wS hSw; (try dsimp only at hSw); go_simp; try with_reducible rfl)
      try simp only [Act.put, List.setIfInBounds_toArray, List.set_cons_zero, List.set_cons_succ]
      refine wpAnyH_ready (rs := [8]) (by kernel_rfl) (by simp) ?_
      refine AllReadyH.cons rfl (fun K hK => ?_) AllReadyH.nil
      go_simp
      with_reducible refine G1.out.mono ?_
      rintro e w3 ⟨rfl, hB3⟩
      have S3 := Lib.hid (S2.out.below hB3)
      have hB3k := Lib.hid hB3
      clear G1 hB3
      refine hK.out _ _ (CE.out _ S3.out) (fun hHeld => ?_)
      clear hK K
      try simp only [Act.put, List.setIfInBounds_toArray, List.set_cons_zero, List.set_cons_succ]
      refine take_on (i := 9) (some 83) (v := ?vr44) rfl rfl (by kernel_rfl) (by kernel_rfl) (by kernel_rfl) (fun _ _ _ h => h) (by rfl) ?hyr44 (by with_reducible exact hHeld) ?restr44
      case hyr44 => (intro wS hSw; (try dsimp only at hSw); go_simp; try with_reducible rfl)
      try simp only [Act.put, List.setIfInBounds_toArray, List.set_cons_zero, List.set_cons_succ]
      refine take_on (i := 10) (some 84) (v := ?vr45) rfl rfl (by kernel_rfl) (by kernel_rfl) (by kernel_rfl) (fun _ _ _ h => h) (by rfl) ?hyr45 (by with_reducible exact hHeld) ?restr45
      case hyr45 => (intro wS hSw; (try dsimp only at hSw); go_simp; try with_reducible rfl)
      try simp only [Act.put, List.setIfInBounds_toArray, List.set_cons_zero, List.set_cons_succ]
      refine take_on (i := 11) (some 85) (v := ?vr46) rfl rfl (by kernel_rfl) (by kernel_rfl) (by kernel_rfl) (fun _ _ _ h => h) (by rfl) ?hyr46 (by with_reducible exact hHeld) ?restr46
      case hyr46 => (intro wS hSw; (try dsimp only at hSw); go_simp; try with_reducible rfl)
      try simp only [Act.put, List.setIfInBounds_toArray, List.set_cons_zero, List.set_cons_succ]
      refine take_on (i := 12) (some 86) (v := ?vr47) rfl rfl (by kernel_rfl) (by kernel_rfl) (by kernel_rfl) (fun _ _ _ h => h) (by rfl) ?hyr47 (by with_reducible exact hHeld) ?restr47
      case hyr47 => (intro wS hSw; (try dsimp only at hSw); go_simp; try with_reducible rfl)
      try simp only [Act.put, List.setIfInBounds_toArray, List.set_cons_zero, List.set_cons_succ]
      refine take_on (i := 13) (some 87) (v := ?vr48) rfl rfl (by kernel_rfl) (by kernel_rfl) (by kernel_rfl) (fun _ _ _ h => h) (by rfl) ?hyr48 (by with_reducible exact hHeld) ?restr48
      case hyr48 => (intro wS hSw; (try dsimp only at hSw); go_simp; try with_reducible rfl)
      try simp only [Act.put, List.setIfInBounds_toArray, List.set_cons_zero, List.set_cons_succ]
      refine take_on (i := 14) (some 88) (v := ?vr49) rfl rfl (by kernel_rfl) (by kernel_rfl) (by kernel_rfl) (fun _ _ _ h => h) (by rfl) ?hyr49 (by with_reducible exact hHeld) ?restr49
      case hyr49 => (intro wS hSw; (try dsimp only at hSw); go_simp; try with_reducible rfl)
      try simp only [Act.put, List.setIfInBounds_toArray, List.set_cons_zero, List.set_cons_succ]
      refine take_on (i := 15) (some 89) (v := ?vr50) rfl rfl (by kernel_rfl) (by kernel_rfl) (by kernel_rfl) (fun _ _ _ h => h) (by rfl) ?hyr50 (by with_reducible exact hHeld) ?restr50
      case hyr50 => (intro wS hSw; (try dsimp only at hSw); go_simp; try with_reducible rfl)
      try simp only [Act.put, List.setIfInBounds_toArray, List.set_cons_zero, List.set_cons_succ]
      refine take_on (i := 16) (some 90) (v := ?vr51) rfl rfl (by kernel_rfl) (by kernel_rfl) (by kernel_rfl) (fun _ _ _ h => h) (by rfl) ?hyr51 (by with_reducible exact hHeld) ?restr51
      case hyr51 => (intro wS hSw; (try dsimp only at hSw); go_simp; try with_reducible rfl)
      try simp only [Act.put, List.setIfInBounds_toArray, List.set_cons_zero, List.set_cons_succ]
      refine take_on (i := 17) (some 91) (v := ?vr52) rfl rfl (by kernel_rfl) (by kernel_rfl) (by kernel_rfl) (fun _ _ _ h => h) (by rfl) ?hyr52 (by with_reducible exact hHeld) ?restr52
      case hyr52 => (intro wS hSw; (try dsimp only at hSw); go_simp; try with_reducible rfl)
      try simp only [Act.put, List.setIfInBounds_toArray, List.set_cons_zero, List.set_cons_succ]
      refine take_on (i := 18) (some 92) (v := ?vr53) rfl rfl (by kernel_rfl) (by kernel_rfl) (by kernel_rfl) (fun _ _ _ h => h) (by rfl) ?hyr53 (by with_reducible exact hHeld) ?restr53
      case hyr53 => (intro wS hSw; (try dsimp only at hSw); go_simp; try with_reducible rfl)
      try simp only [Act.put, List.setIfInBounds_toArray, List.set_cons_zero, List.set_cons_succ]
      have gr3 := GR.out.chg ((Chg.of_below (fun _ _ => False) (Below.refl W.heap.size W).drew).trans (Chg.of_below (fun _ _ => False) hB3k.out) fun _ _ _ h => h) encP_len fun _ _ _ h => h
      have g2 := find_any Ar cr rn (L (x * 2 + 1)) owner w3 HRN.out.symm (by omega) gr3.rds
      rw [← HFJ.out] at g2
      have G2 := Lib.hid g2
      clear g2 gr3
      refine wpAnyH_ready (rs := [19]) (by kernel_rfl) (by simp) ?_
      refine AllReadyH.cons rfl (fun K hK => ?_) AllReadyH.nil
      go_simp
      with_reducible refine G2.out.mono ?_
      rintro e w4 ⟨rfl, hB4⟩
      have S4 := Lib.hid (S3.out.below hB4)
      clear G2 hB4
      refine hK.out _ _ (CE.out _ S4.out) (fun hHeld => ?_)
      clear hK K
      try simp only [Act.put, List.setIfInBounds_toArray, List.set_cons_zero, List.set_cons_succ]
      refine take_on (i := 20) (some 94) (v := ?vr54) rfl rfl (by kernel_rfl) (by kernel_rfl) (by kernel_rfl) (fun _ _ _ h => h) (by rfl) ?hyr54 (by with_reducible exact hHeld) ?restr54
      case hyr54 => (intro wS hSw; (try dsimp only at hSw); go_simp; try with_reducible rfl)
      try simp only [Act.put, List.setIfInBounds_toArray, List.set_cons_zero, List.set_cons_succ]
      refine take_on (i := 21) (some 95) (v := ?vr55) rfl rfl (by kernel_rfl) (by kernel_rfl) (by kernel_rfl) (fun _ _ _ h => h) (by rfl) ?hyr55 (by with_reducible exact hHeld) ?restr55
      case hyr55 => (intro wS hSw; (try dsimp only at hSw); go_simp; try with_reducible rfl)
      try simp only [Act.put, List.setIfInBounds_toArray, List.set_cons_zero, List.set_cons_succ]
      refine take_on (i := 22) (some 73) (v := ?vr56) rfl rfl (by kernel_rfl) (by kernel_rfl) (by kernel_rfl) (fun _ _ _ h => h) (by rfl) ?hyr56 (by with_reducible exact hHeld) ?restr56
      case hyr56 => (intro wS hSw; (try dsimp only at hSw); go_simp; try with_reducible rfl)
      try simp only [Act.put, List.setIfInBounds_toArray, List.set_cons_zero, List.set_cons_succ]
      refine wpAnyH_done (by kernel_rfl) ?_ _
      refine NoPanic.normal ?_
      by_cases c1 : 0 ≤ fj
      · have qe : w4.cell? ⟨Q, 6, none⟩ = some (.int .i64 0) := S4.out.req.cell 6
        have fe := S4.out.req.frozen 6
        have SE := Lib.hid (S4.out.err1 91)
        go_wp2
        go_end0
        refine acq_post (V' := V) HM.out HX.out (h' := L (x * 2)) (r' := L (x * 2 + 1)) (d := 0) (ok' := false) (err' := 91) ?_ ?_
        · unfold acqL
          rw [if_pos (by rw [← HFI.out, ← HFJ.out]; first | exact .inl c0 | exact .inr c1)]
        · rw [upd_id2]
          simpa using SE.out
      · have hno : ¬ (0 ≤ findI (L (x * 2)) owner ∨ 0 ≤ findI (L (x * 2 + 1)) owner) := by
          rw [← HFI.out, ← HFJ.out]
          omega
        have HNO := Lib.hid hno
        have x0 := (CE.out _ S4.out).1
        have x1 := (CE.out _ S4.out).2.1
        have x3 := (CE.out _ S4.out).2.2.1
        have x4 := (CE.out _ S4.out).2.2.2
        have gh4 : GSl encP 2 96 w4 Ah ch (L (x * 2)) := by
          obtain ⟨A', c', e, h, _⟩ := S4.out.tab.own (x * 2) i0
          rw [EH.out] at e
          injection e with e1 _ e3
          subst e1
          subst e3
          exact h
        have gG := Lib.hid (goes_any E (x * 2) Ah ch hn' (L (x * 2)) mode w4 HHN.out.symm (by omega) x0 gh4.rds)
        obtain ⟨gb, hgb⟩ : ∃ gb, gb = goesL (L (x * 2)) mode := ⟨_, rfl⟩
        rw [← hgb] at gG
        have HGB := Lib.hid hgb
        have GH4 := Lib.hid gh4
        clear hno S3 hgb gh4
        go_upto_region 9 with fail
        go_cut [99] (fun t99 wx => t99 = .bool (decide (rn = 0) && gb) ∧ w4 = wx)
        case first =>
          by_cases h0 : rn = 0
          · have h0' : ((rn : Int) == 0) = true := by rw [beq_iff_eq]; omega
            go_wp2_with fail
            refine gG.out.mono ?_
            rintro e w' ⟨rfl, rfl⟩
            go_wp2
            go_meet
            exact ⟨by rw [decide_eq_true h0]; rfl, rfl⟩
          · have h0' : ((rn : Int) == 0) = false := by rw [beq_eq_false_iff_ne]; omega
            go_wp2
            go_meet
            exact ⟨by rw [decide_eq_false h0]; rfl, rfl⟩
        obtain ⟨rfl, rfl⟩ := hcut
        clear gG
        obtain ⟨bb, hbb⟩ : ∃ bb, bb = (decide (rn = 0) && gb) := ⟨_, rfl⟩
        rw [← hbb]
        have HBB := Lib.hid hbb
        clear hbb
        cases bb with
        | true =>
          go_wp2_with fail
          have Sa := Lib.hid (S4.out.below (((Below.refl w4.heap.size w4).alloc (Nat.le_refl _) (.cells #[.int .i64 owner, .int .i64 mode] 96)).drew))
          have Ga := Lib.hid (show GSl encP 2 96 (w4.alloc (.cells #[.int .i64 owner, .int .i64 mode] 96)).drew Ah ch (L (x * 2)) from GH4.out.chg ((Chg.alloc (fun _ _ => False) w4 (.cells #[.int .i64 owner, .int .i64 mode] 96)).drew) encP_len fun _ _ _ h => h)
          have Rn := Lib.hid (show RdS encP 2 (w4.alloc (.cells #[.int .i64 owner, .int .i64 mode] 96)).drew (some ⟨w4.heap.size, 0, none⟩) [(owner, mode)] from (RdS.new1 encP 2 w4 96 (owner, mode)))
          have ch0 : w4.drew.cell? ⟨E, x * 2, none⟩ = some (.slice Ah hn' ch) := by show w4.cell? _ = _; rw [S4.out.tab.cell i0, EH.out]
          have ch1 : (w4.alloc (.cells #[.int .i64 owner, .int .i64 mode] 96)).drew.cell? ⟨E, x * 2, none⟩ = some (.slice Ah hn' ch) := by rw [Sa.out.tab.cell i0, EH.out]
          have SF0 := Lib.hid (show w4.drew.cell? ⟨Q, 3, none⟩ = some (.int .i64 owner) ∧ w4.drew.cell? ⟨Q, 2, none⟩ = some (.int .i64 mode) from ⟨S4.out.req.cell 3, S4.out.req.cell 2⟩)
          have SFa := Lib.hid (show (w4.alloc (.cells #[.int .i64 owner, .int .i64 mode] 96)).drew.cell? ⟨Q, 3, none⟩ = some (.int .i64 owner) ∧ (w4.alloc (.cells #[.int .i64 owner, .int .i64 mode] 96)).drew.cell? ⟨Q, 2, none⟩ = some (.int .i64 mode) from ⟨Sa.out.req.cell 3, Sa.out.req.cell 2⟩)
          refine wp_region_noPanic ?_
          refine wp_region_held_drew (S := fun w' => w'.cell? ⟨Q, 3, none⟩ = some (.int .i64 owner) ∧ w'.cell? ⟨Q, 2, none⟩ = some (.int .i64 mode)) (by kernel_rfl) (SF0.out) (fun hHeld => ?_)
          refine take_on (i := 0) (some 114) (v := ?vr57) rfl rfl (by kernel_rfl) (by kernel_rfl) (by kernel_rfl) (fun _ _ _ h => h) (by rfl) ?hyr57 (by with_reducible exact hHeld) ?restr57
          case hyr57 => (intro wS hSw; (try dsimp only at hSw); go_simp; try with_reducible rfl)
          try simp only [Act.put, List.setIfInBounds_toArray, List.set_cons_zero, List.set_cons_succ]
          refine take_on (i := 1) (some 115) (v := ?vr58) rfl rfl (by kernel_rfl) (by kernel_rfl) (by kernel_rfl) (fun _ _ _ h => h) (by rfl) ?hyr58 (by with_reducible exact hHeld) ?restr58
          case hyr58 => (intro wS hSw; (try dsimp only at hSw); go_simp; try with_reducible rfl)
          try simp only [Act.put, List.setIfInBounds_toArray, List.set_cons_zero, List.set_cons_succ]
          refine take_on (i := 2) (some 116) (v := ?vr59) rfl rfl (by kernel_rfl) (by kernel_rfl) (by kernel_rfl) (fun _ _ _ h => h) (by rfl) ?hyr59 (by with_reducible exact hHeld) ?restr59
          case hyr59 => (intro wS hSw; (try dsimp only at hSw); go_simp; try with_reducible rfl)
          try simp only [Act.put, List.setIfInBounds_toArray, List.set_cons_zero, List.set_cons_succ]
          refine take_on (i := 3) (some 117) (v := ?vr60) rfl rfl (by kernel_rfl) (by kernel_rfl) (by kernel_rfl) (fun _ _ _ h => h) (by rfl) ?hyr60 (by with_reducible exact hHeld) ?restr60
          case hyr60 => (intro wS hSw; (try dsimp only at hSw); go_simp; try with_reducible rfl)
          try simp only [Act.put, List.setIfInBounds_toArray, List.set_cons_zero, List.set_cons_succ]
          refine take_on (i := 5) (some 119) (v := ?vr61) rfl rfl (by kernel_rfl) (by kernel_rfl) (by kernel_rfl) (fun _ _ _ h => h) (by rfl) ?hyr61 (by with_reducible exact hHeld) ?restr61
          case hyr61 => (intro wS hSw; (try dsimp only at hSw); go_simp; try with_reducible rfl)
          try simp only [Act.put, List.setIfInBounds_toArray, List.set_cons_zero, List.set_cons_succ]
          refine take_on (i := 6) (some 120) (v := ?vr62) rfl rfl (by kernel_rfl) (by kernel_rfl) (by kernel_rfl) (fun _ _ _ h => h) (by rfl) ?hyr62 (by with_reducible exact hHeld) ?restr62
          case hyr62 => (intro wS hSw; (try dsimp only at hSw); go_simp; try with_reducible rfl)
          try simp only [Act.put, List.setIfInBounds_toArray, List.set_cons_zero, List.set_cons_succ]
          refine take_on (i := 7) (some 121) (v := ?vr63) rfl rfl (by kernel_rfl) (by kernel_rfl) (by kernel_rfl) (fun _ _ _ h => h) (by rfl) ?hyr63 (by with_reducible exact hHeld) ?restr63
          case hyr63 => (intro wS hSw; (try dsimp only at hSw); go_simp; try with_reducible rfl)
          try simp only [Act.put, List.setIfInBounds_toArray, List.set_cons_zero, List.set_cons_succ]
          refine take_on (i := 8) (some 122) (v := ?vr64) rfl rfl (by kernel_rfl) (by kernel_rfl) (by kernel_rfl) (fun _ _ _ h => h) (by rfl) ?hyr64 (by with_reducible exact hHeld) ?restr64
          case hyr64 => (intro wS hSw; (try dsimp only at hSw); go_simp; try with_reducible rfl)
          try simp only [Act.put, List.setIfInBounds_toArray, List.set_cons_zero, List.set_cons_succ]
          refine take_on (i := 9) (some 123) (v := ?vr65) rfl rfl (by kernel_rfl) (by kernel_rfl) (by kernel_rfl) (fun _ _ _ h => h) (by rfl) ?hyr65 (by with_reducible exact hHeld) ?restr65
          case hyr65 => (intro wS hSw; (try dsimp only at hSw); go_simp; try with_reducible rfl)
          try simp only [Act.put, List.setIfInBounds_toArray, List.set_cons_zero, List.set_cons_succ]
          refine take_on (i := 10) (some 124) (v := ?vr66) rfl rfl (by kernel_rfl) (by kernel_rfl) (by kernel_rfl) (fun _ _ _ h => h) (by rfl) ?hyr66 (by with_reducible exact hHeld) ?restr66
          case hyr66 => (intro wS hSw; (try dsimp only at hSw); go_simp; try with_reducible rfl)
          try simp only [Act.put, List.setIfInBounds_toArray, List.set_cons_zero, List.set_cons_succ]
          refine take_on (i := 11) (some 125) (v := ?vr67) rfl rfl (by kernel_rfl) (by kernel_rfl) (by kernel_rfl) (fun _ _ _ h => h) (by rfl) ?hyr67 (by with_reducible exact hHeld) ?restr67
          case hyr67 => (intro wS hSw; (try dsimp only at hSw); go_simp; try with_reducible rfl)
          try simp only [Act.put, List.setIfInBounds_toArray, List.set_cons_zero, List.set_cons_succ]
          refine take_on (i := 12) (some 126) (v := ?vr68) rfl rfl (by kernel_rfl) (by kernel_rfl) (by kernel_rfl) (fun _ _ _ h => h) (by rfl) ?hyr68 (by with_reducible exact hHeld) ?restr68
          case hyr68 => (intro wS hSw; (try dsimp only at hSw); go_simp; try with_reducible rfl)
          try simp only [Act.put, List.setIfInBounds_toArray, List.set_cons_zero, List.set_cons_succ]
          refine take_on (i := 13) (some 127) (v := ?vr69) rfl rfl (by kernel_rfl) (by kernel_rfl) (by kernel_rfl) (fun _ _ _ h => h) (by rfl) ?hyr69 (by with_reducible exact hHeld) ?restr69
          case hyr69 => (intro wS hSw; (try dsimp only at hSw); go_simp; try with_reducible rfl)
          try simp only [Act.put, List.setIfInBounds_toArray, List.set_cons_zero, List.set_cons_succ]
          refine wpAnyH_ready (rs := [4, 14]) (by kernel_rfl) (by simp) ?_
          refine AllReadyH.cons rfl (fun K hK => ?_) ?_
          · go_simp
            refine hK.out _ _ (SF0.out) (fun hHeld => ?_)
            clear hK K
            try simp only [Act.put, List.setIfInBounds_toArray, List.set_cons_zero, List.set_cons_succ]
            refine wpAnyH_ready (rs := [14]) (by kernel_rfl) (by simp) ?_
            refine AllReadyH.cons rfl (fun K hK => ?_) AllReadyH.nil
            go_simp
            refine hK.out _ _ (SFa.out) (fun hHeld => ?_)
            clear hK K
            try simp only [Act.put, List.setIfInBounds_toArray, List.set_cons_zero, List.set_cons_succ]
            refine wpAnyH_ready (rs := [15]) (by kernel_rfl) (by simp) ?_
            refine AllReadyH.cons rfl (fun K hK => ?_) AllReadyH.nil
            refine step_appendG pTy (by decide) encP_len encP_one (by rfl) (.tmp 118) (.tmp 128) (by rfl) Ah ch (L (x * 2)) (by rw [← HHN.out]; rfl) Ga.out (some ⟨w4.heap.size, 0, none⟩) 1 [(owner, mode)] (by rfl) Rn.out (by rw [← HHN.out]; simp only [maxLen, List.length_singleton]; omega) (by rw [← HHN.out]; simp only [List.length_singleton]; omega) ?_
            intro A' c' w2 h4 k4 q4
            have hFk : ∀ k j, slFp 2 Ah (L (x * 2)).length ch k j → (V (x * 2)).ownBlock = some k := fun k j hf => by rw [EH.out]; exact slFp_own hf (by rcases hAh with h | ⟨g, h, _⟩; exact .inl h; exact .inr ⟨g, h⟩)
            have ex2 := k4.blk Sa.out.tab.ex fun j hf => by obtain ⟨_, cs, hb⟩ := (Sa.out.tab.own (x * 2) i0).blk (hFk _ _ hf); exact blk_type_ne hb Sa.out.tab.ex (by decide) rfl
            have rq2 := k4.blk Sa.out.req fun j hf => by obtain ⟨_, cs, hb⟩ := (Sa.out.tab.own (x * 2) i0).blk (hFk _ _ hf); exact blk_type_ne hb Sa.out.req (by decide) rfl
            have SF2 := Lib.hid (show w2.cell? ⟨Q, 3, none⟩ = some (.int .i64 owner) ∧ w2.cell? ⟨Q, 2, none⟩ = some (.int .i64 mode) from ⟨rq2.cell 3, rq2.cell 2⟩)
            have ca2 : w2.cell? ⟨E, x * 2, none⟩ = some (.slice Ah hn' ch) := by rw [ex_at ex2 i0, EH.out]
            have fa2 := ex2.frozen (x * 2)
            have hlp : (L (x * 2) ++ [(owner, mode)]).length = hn' + 1 := by rw [List.length_append, HHN.out]; rfl
            have ho2 : OwnP w2 base (.slice A' (L (x * 2) ++ [(owner, mode)]).length c') (L (x * 2) ++ [(owner, mode)]) := ⟨A', c', rfl, h4, by
              rcases q4 with ⟨e1, _⟩ | ⟨g', e1, hg'⟩
              · rw [e1]; exact hAh
              · refine .inr ⟨g', e1, ?_⟩
                have h5 := S4.out.tab.fpLt (k := E) (.inr (.inl rfl))
                have h6 : w4.heap.size ≤ g' := Nat.le_trans (by simp [World.drew]) hg'
                omega⟩
            have SP := Sa.out.put i0 k4 hFk ho2 (fun k e => by
              rcases q4 with ⟨e1, _⟩ | ⟨g', e1, hg'⟩
              · subst e1
                left
                rw [EH.out]
                rcases hAh with e2 | ⟨g2, e2, _⟩
                · subst e2; cases e
                · subst e2; exact e
              · subst e1
                cases e
                exact .inr hg')
            rw [hlp] at SP ⊢
            have HSP := Lib.hid SP
            have SF3 := Lib.hid (show (w2.setCell ⟨E, x * 2, none⟩ (.slice A' (hn' + 1) c')).cell? ⟨Q, 3, none⟩ = some (.int .i64 owner) ∧ (w2.setCell ⟨E, x * 2, none⟩ (.slice A' (hn' + 1) c')).cell? ⟨Q, 2, none⟩ = some (.int .i64 mode) from ⟨HSP.out.req.cell 3, HSP.out.req.cell 2⟩)
            clear h4 k4 q4 hFk ex2 rq2 ho2 SP hlp
            refine hK.out _ _ SF2.out (fun hHeld => ?_)
            clear hK K
            try simp only [Act.put, List.setIfInBounds_toArray, List.set_cons_zero, List.set_cons_succ]
            refine take_on (i := 16) (some 130) (v := ?vr70) rfl rfl (by kernel_rfl) (by kernel_rfl) (by kernel_rfl) (fun _ _ _ h => h) (by rfl) ?hyr70 (by with_reducible exact hHeld) ?restr70
            case hyr70 => (intro wS hSw; (try dsimp only at hSw); go_simp; try with_reducible rfl)
            try simp only [Act.put, List.setIfInBounds_toArray, List.set_cons_zero, List.set_cons_succ]
            refine take_on (i := 17) (some 131) (v := ?vr71) rfl rfl (by kernel_rfl) (by kernel_rfl) (by kernel_rfl) (fun _ _ _ h => h) (by rfl) ?hyr71 (by with_reducible exact hHeld) ?restr71
            case hyr71 => (intro wS hSw; (try dsimp only at hSw); go_simp; try with_reducible rfl)
            try simp only [Act.put, List.setIfInBounds_toArray, List.set_cons_zero, List.set_cons_succ]
            refine wpAnyH_ready (rs := [18]) (by kernel_rfl) (by simp) ?_
            refine AllReadyH.cons rfl (fun K hK => ?_) AllReadyH.nil
            go_simp
            refine hK.out _ _ (SF3.out) (fun hHeld => ?_)
            clear hK K
            try simp only [Act.put, List.setIfInBounds_toArray, List.set_cons_zero, List.set_cons_succ]
            refine wpAnyH_done (by kernel_rfl) ?_ _
            refine NoPanic.normal ?_
            have HW3 := Lib.hid HSP.out
            obtain ⟨W3, hW3⟩ : ∃ W3, W3 = w2.setCell ⟨E, x * 2, none⟩ (.slice A' (hn' + 1) c') := ⟨_, rfl⟩
            rw [← hW3] at HW3 ⊢
            clear hW3 HSP SF3 SF2 ca2 fa2 SF0 SFa ch0 ch1 Ga Rn Sa
            have cq5 : W3.cell? ⟨Q, 5, none⟩ = some (.bool false) := HW3.out.req.cell 5
            have fq5 := HW3.out.req.frozen 5
            have SO := Lib.hid (HW3.out.ok1 true)
            go_wp2
            go_end0
            refine acq_post HM.out HX.out (h' := L (x * 2) ++ [(owner, mode)]) (r' := L (x * 2 + 1)) (d := 0) (ok' := true) (err' := 0) ?_ (V' := upd V (x * 2) (.slice A' (hn' + 1) c')) ?_
            · have h1 := HBB.out
              rw [HGB.out] at h1
              have h2 : rn = 0 ∧ goesL (L (x * 2)) mode = true := by simpa using h1.symm
              unfold acqL
              rw [if_neg HNO.out, if_pos ⟨List.eq_nil_of_length_eq_zero (by rw [← HRN.out]; exact h2.1), h2.2⟩]
            · have e1 : upd (upd L (x * 2) (L (x * 2) ++ [(owner, mode)])) (x * 2 + 1) (L (x * 2 + 1)) = upd L (x * 2) (L (x * 2) ++ [(owner, mode)]) := by rw [upd_comm _ _ _ (by omega), upd_self]
              rw [e1]
              simpa using SO.out
          · refine AllReadyH.cons rfl (fun K hK => ?_) AllReadyH.nil
            go_simp
            refine hK.out _ _ (SFa.out) (fun hHeld => ?_)
            clear hK K
            try simp only [Act.put, List.setIfInBounds_toArray, List.set_cons_zero, List.set_cons_succ]
            refine wpAnyH_ready (rs := [4]) (by kernel_rfl) (by simp) ?_
            refine AllReadyH.cons rfl (fun K hK => ?_) AllReadyH.nil
            go_simp
            refine hK.out _ _ (SFa.out) (fun hHeld => ?_)
            clear hK K
            try simp only [Act.put, List.setIfInBounds_toArray, List.set_cons_zero, List.set_cons_succ]
            refine wpAnyH_ready (rs := [15]) (by kernel_rfl) (by simp) ?_
            refine AllReadyH.cons rfl (fun K hK => ?_) AllReadyH.nil
            refine step_appendG pTy (by decide) encP_len encP_one (by rfl) (.tmp 118) (.tmp 128) (by rfl) Ah ch (L (x * 2)) (by rw [← HHN.out]; rfl) Ga.out (some ⟨w4.heap.size, 0, none⟩) 1 [(owner, mode)] (by rfl) Rn.out (by rw [← HHN.out]; simp only [maxLen, List.length_singleton]; omega) (by rw [← HHN.out]; simp only [List.length_singleton]; omega) ?_
            intro A' c' w2 h4 k4 q4
            have hFk : ∀ k j, slFp 2 Ah (L (x * 2)).length ch k j → (V (x * 2)).ownBlock = some k := fun k j hf => by rw [EH.out]; exact slFp_own hf (by rcases hAh with h | ⟨g, h, _⟩; exact .inl h; exact .inr ⟨g, h⟩)
            have ex2 := k4.blk Sa.out.tab.ex fun j hf => by obtain ⟨_, cs, hb⟩ := (Sa.out.tab.own (x * 2) i0).blk (hFk _ _ hf); exact blk_type_ne hb Sa.out.tab.ex (by decide) rfl
            have rq2 := k4.blk Sa.out.req fun j hf => by obtain ⟨_, cs, hb⟩ := (Sa.out.tab.own (x * 2) i0).blk (hFk _ _ hf); exact blk_type_ne hb Sa.out.req (by decide) rfl
            have SF2 := Lib.hid (show w2.cell? ⟨Q, 3, none⟩ = some (.int .i64 owner) ∧ w2.cell? ⟨Q, 2, none⟩ = some (.int .i64 mode) from ⟨rq2.cell 3, rq2.cell 2⟩)
            have ca2 : w2.cell? ⟨E, x * 2, none⟩ = some (.slice Ah hn' ch) := by rw [ex_at ex2 i0, EH.out]
            have fa2 := ex2.frozen (x * 2)
            have hlp : (L (x * 2) ++ [(owner, mode)]).length = hn' + 1 := by rw [List.length_append, HHN.out]; rfl
            have ho2 : OwnP w2 base (.slice A' (L (x * 2) ++ [(owner, mode)]).length c') (L (x * 2) ++ [(owner, mode)]) := ⟨A', c', rfl, h4, by
              rcases q4 with ⟨e1, _⟩ | ⟨g', e1, hg'⟩
              · rw [e1]; exact hAh
              · refine .inr ⟨g', e1, ?_⟩
                have h5 := S4.out.tab.fpLt (k := E) (.inr (.inl rfl))
                have h6 : w4.heap.size ≤ g' := Nat.le_trans (by simp [World.drew]) hg'
                omega⟩
            have SP := Sa.out.put i0 k4 hFk ho2 (fun k e => by
              rcases q4 with ⟨e1, _⟩ | ⟨g', e1, hg'⟩
              · subst e1
                left
                rw [EH.out]
                rcases hAh with e2 | ⟨g2, e2, _⟩
                · subst e2; cases e
                · subst e2; exact e
              · subst e1
                cases e
                exact .inr hg')
            rw [hlp] at SP ⊢
            have HSP := Lib.hid SP
            have SF3 := Lib.hid (show (w2.setCell ⟨E, x * 2, none⟩ (.slice A' (hn' + 1) c')).cell? ⟨Q, 3, none⟩ = some (.int .i64 owner) ∧ (w2.setCell ⟨E, x * 2, none⟩ (.slice A' (hn' + 1) c')).cell? ⟨Q, 2, none⟩ = some (.int .i64 mode) from ⟨HSP.out.req.cell 3, HSP.out.req.cell 2⟩)
            clear h4 k4 q4 hFk ex2 rq2 ho2 SP hlp
            refine hK.out _ _ SF2.out (fun hHeld => ?_)
            clear hK K
            try simp only [Act.put, List.setIfInBounds_toArray, List.set_cons_zero, List.set_cons_succ]
            refine take_on (i := 16) (some 130) (v := ?vr72) rfl rfl (by kernel_rfl) (by kernel_rfl) (by kernel_rfl) (fun _ _ _ h => h) (by rfl) ?hyr72 (by with_reducible exact hHeld) ?restr72
            case hyr72 => (intro wS hSw; (try dsimp only at hSw); go_simp; try with_reducible rfl)
            try simp only [Act.put, List.setIfInBounds_toArray, List.set_cons_zero, List.set_cons_succ]
            refine take_on (i := 17) (some 131) (v := ?vr73) rfl rfl (by kernel_rfl) (by kernel_rfl) (by kernel_rfl) (fun _ _ _ h => h) (by rfl) ?hyr73 (by with_reducible exact hHeld) ?restr73
            case hyr73 => (intro wS hSw; (try dsimp only at hSw); go_simp; try with_reducible rfl)
            try simp only [Act.put, List.setIfInBounds_toArray, List.set_cons_zero, List.set_cons_succ]
            refine wpAnyH_ready (rs := [18]) (by kernel_rfl) (by simp) ?_
            refine AllReadyH.cons rfl (fun K hK => ?_) AllReadyH.nil
            go_simp
            refine hK.out _ _ (SF3.out) (fun hHeld => ?_)
            clear hK K
            try simp only [Act.put, List.setIfInBounds_toArray, List.set_cons_zero, List.set_cons_succ]
            refine wpAnyH_done (by kernel_rfl) ?_ _
            refine NoPanic.normal ?_
            have HW3 := Lib.hid HSP.out
            obtain ⟨W3, hW3⟩ : ∃ W3, W3 = w2.setCell ⟨E, x * 2, none⟩ (.slice A' (hn' + 1) c') := ⟨_, rfl⟩
            rw [← hW3] at HW3 ⊢
            clear hW3 HSP SF3 SF2 ca2 fa2 SF0 SFa ch0 ch1 Ga Rn Sa
            have cq5 : W3.cell? ⟨Q, 5, none⟩ = some (.bool false) := HW3.out.req.cell 5
            have fq5 := HW3.out.req.frozen 5
            have SO := Lib.hid (HW3.out.ok1 true)
            go_wp2
            go_end0
            refine acq_post HM.out HX.out (h' := L (x * 2) ++ [(owner, mode)]) (r' := L (x * 2 + 1)) (d := 0) (ok' := true) (err' := 0) ?_ (V' := upd V (x * 2) (.slice A' (hn' + 1) c')) ?_
            · have h1 := HBB.out
              rw [HGB.out] at h1
              have h2 : rn = 0 ∧ goesL (L (x * 2)) mode = true := by simpa using h1.symm
              unfold acqL
              rw [if_neg HNO.out, if_pos ⟨List.eq_nil_of_length_eq_zero (by rw [← HRN.out]; exact h2.1), h2.2⟩]
            · have e1 : upd (upd L (x * 2) (L (x * 2) ++ [(owner, mode)])) (x * 2 + 1) (L (x * 2 + 1)) = upd L (x * 2) (L (x * 2) ++ [(owner, mode)]) := by rw [upd_comm _ _ _ (by omega), upd_self]
              rw [e1]
              simpa using SO.out
        | false =>
          have hnf : ¬ (L (x * 2 + 1) = [] ∧ goesL (L (x * 2)) mode = true) := fun h => by
            have h1 := HBB.out
            rw [HGB.out, h.2, decide_eq_true (show rn = 0 by rw [HRN.out, h.1]; rfl)] at h1
            cases h1
          have HNF := Lib.hid hnf
          have gr4 : GSl encP 2 96 w4 Ar cr (L (x * 2 + 1)) := by
            obtain ⟨A', c', e, h, _⟩ := S4.out.tab.own (x * 2 + 1) i1
            rw [ER.out] at e
            injection e with e1 _ e3
            subst e1
            subst e3
            exact h
          have S5 := Lib.hid (S4.out.below (Below.refl w4.heap.size w4).drew)
          have GR5 := Lib.hid (show GSl encP 2 96 w4.drew Ar cr (L (x * 2 + 1)) from gr4.chg (Chg.of_below (fun _ _ => False) (Below.refl w4.heap.size w4).drew) encP_len fun _ _ _ h => h)
          clear hnf gr4 x0 x1 x3 x4
          go_wp2_with fail
          refine wp_region_noPanic ?_
          refine wp_region_held_drew (S := fun w' => w'.cell? ⟨Q, 0, none⟩ = some (.pointer (some ⟨T, 0, none⟩)) ∧ w'.cell? ⟨T, 3, none⟩ = some (.int .i64 most) ∧ w'.cell? ⟨T, 4, none⟩ = some (.int .i64 wait)) (by kernel_rfl) (⟨S4.out.req.cell 0, S4.out.tab.tb.cell 3, S4.out.tab.tb.cell 4⟩) (fun hHeld => ?_)
          refine take_on (i := 0) (some 136) (v := ?vr74) rfl rfl (by kernel_rfl) (by kernel_rfl) (by kernel_rfl) (fun _ _ _ h => h) (by rfl) ?hyr74 (by with_reducible exact hHeld) ?restr74
          case hyr74 => (intro wS hSw; (try dsimp only at hSw); go_simp; try with_reducible rfl)
          try simp only [Act.put, List.setIfInBounds_toArray, List.set_cons_zero, List.set_cons_succ]
          refine take_on (i := 1) (some 137) (v := ?vr75) rfl rfl (by kernel_rfl) (by kernel_rfl) (by kernel_rfl) (fun _ _ _ h => h) (by rfl) ?hyr75 (by with_reducible exact hHeld) ?restr75
          case hyr75 => (intro wS hSw; (try dsimp only at hSw); go_simp; try with_reducible rfl)
          try simp only [Act.put, List.setIfInBounds_toArray, List.set_cons_zero, List.set_cons_succ]
          refine take_on (i := 2) (some 138) (v := ?vr76) rfl rfl (by kernel_rfl) (by kernel_rfl) (by kernel_rfl) (fun _ _ _ h => h) (by rfl) ?hyr76 (by with_reducible exact hHeld) ?restr76
          case hyr76 => (intro wS hSw; (try dsimp only at hSw); go_simp; try with_reducible rfl)
          try simp only [Act.put, List.setIfInBounds_toArray, List.set_cons_zero, List.set_cons_succ]
          refine take_on (i := 3) (some 139) (v := ?vr77) rfl rfl (by kernel_rfl) (by kernel_rfl) (by kernel_rfl) (fun _ _ _ h => h) (by rfl) ?hyr77 (by with_reducible exact hHeld) ?restr77
          case hyr77 => (intro wS hSw; (try dsimp only at hSw); go_simp; try with_reducible rfl)
          try simp only [Act.put, List.setIfInBounds_toArray, List.set_cons_zero, List.set_cons_succ]
          refine take_on (i := 4) (some 140) (v := ?vr78) rfl rfl (by kernel_rfl) (by kernel_rfl) (by kernel_rfl) (fun _ _ _ h => h) (by rfl) ?hyr78 (by with_reducible exact hHeld) ?restr78
          case hyr78 => (intro wS hSw; (try dsimp only at hSw); go_simp; try with_reducible rfl)
          try simp only [Act.put, List.setIfInBounds_toArray, List.set_cons_zero, List.set_cons_succ]
          refine take_on (i := 5) (some 141) (v := ?vr79) rfl rfl (by kernel_rfl) (by kernel_rfl) (by kernel_rfl) (fun _ _ _ h => h) (by rfl) ?hyr79 (by with_reducible exact hHeld) ?restr79
          case hyr79 => (intro wS hSw; (try dsimp only at hSw); go_simp; try with_reducible rfl)
          try simp only [Act.put, List.setIfInBounds_toArray, List.set_cons_zero, List.set_cons_succ]
          refine take_on (i := 6) (some 142) (v := ?vr80) rfl rfl (by kernel_rfl) (by kernel_rfl) (by kernel_rfl) (fun _ _ _ h => h) (by rfl) ?hyr80 (by with_reducible exact hHeld) ?restr80
          case hyr80 => (intro wS hSw; (try dsimp only at hSw); go_simp; try with_reducible rfl)
          try simp only [Act.put, List.setIfInBounds_toArray, List.set_cons_zero, List.set_cons_succ]
          refine take_on (i := 7) (some 143) (v := ?vr81) rfl rfl (by kernel_rfl) (by kernel_rfl) (by kernel_rfl) (fun _ _ _ h => h) (by rfl) ?hyr81 (by with_reducible exact hHeld) ?restr81
          case hyr81 => (intro wS hSw; (try dsimp only at hSw); go_simp; try with_reducible rfl)
          try simp only [Act.put, List.setIfInBounds_toArray, List.set_cons_zero, List.set_cons_succ]
          refine take_on (i := 8) (some 144) (v := ?vr82) rfl rfl (by kernel_rfl) (by kernel_rfl) (by kernel_rfl) (fun _ _ _ h => h) (by rfl) ?hyr82 (by with_reducible exact hHeld) ?restr82
          case hyr82 => (intro wS hSw; (try dsimp only at hSw); go_simp; try with_reducible rfl)
          try simp only [Act.put, List.setIfInBounds_toArray, List.set_cons_zero, List.set_cons_succ]
          refine take_on (i := 9) (some 145) (v := ?vr83) rfl rfl (by kernel_rfl) (by kernel_rfl) (by kernel_rfl) (fun _ _ _ h => h) (by rfl) ?hyr83 (by with_reducible exact hHeld) ?restr83
          case hyr83 => (intro wS hSw; (try dsimp only at hSw); go_simp; try with_reducible rfl)
          try simp only [Act.put, List.setIfInBounds_toArray, List.set_cons_zero, List.set_cons_succ]
          refine take_on (i := 10) (some 146) (v := ?vr84) rfl rfl (by kernel_rfl) (by kernel_rfl) (by kernel_rfl) (fun _ _ _ h => h) (by rfl) ?hyr84 (by with_reducible exact hHeld) ?restr84
          case hyr84 => (intro wS hSw; (try dsimp only at hSw); go_simp; try with_reducible rfl)
          try simp only [Act.put, List.setIfInBounds_toArray, List.set_cons_zero, List.set_cons_succ]
          refine take_on (i := 11) (some 147) (v := ?vr85) rfl rfl (by kernel_rfl) (by kernel_rfl) (by kernel_rfl) (fun _ _ _ h => h) (by rfl) ?hyr85 (by with_reducible exact hHeld) ?restr85
          case hyr85 => (intro wS hSw; (try dsimp only at hSw); go_simp; try with_reducible rfl)
          try simp only [Act.put, List.setIfInBounds_toArray, List.set_cons_zero, List.set_cons_succ]
          refine take_on (i := 12) (some 148) (v := ?vr86) rfl rfl (by kernel_rfl) (by kernel_rfl) (by kernel_rfl) (fun _ _ _ h => h) (by rfl) ?hyr86 (by with_reducible exact hHeld) ?restr86
          case hyr86 => (intro wS hSw; (try dsimp only at hSw); go_simp; try with_reducible rfl)
          try simp only [Act.put, List.setIfInBounds_toArray, List.set_cons_zero, List.set_cons_succ]
          refine take_on (i := 13) (some 149) (v := ?vr87) rfl rfl (by kernel_rfl) (by kernel_rfl) (by kernel_rfl) (fun _ _ _ h => h) (by rfl) ?hyr87 (by with_reducible exact hHeld) ?restr87
          case hyr87 => (intro wS hSw; (try dsimp only at hSw); go_simp; try with_reducible rfl)
          try simp only [Act.put, List.setIfInBounds_toArray, List.set_cons_zero, List.set_cons_succ]
          refine take_on (i := 14) (some 150) (v := ?vr88) rfl rfl (by kernel_rfl) (by kernel_rfl) (by kernel_rfl) (fun _ _ _ h => h) (by rfl) ?hyr88 (by with_reducible exact hHeld) ?restr88
          case hyr88 => (intro wS hSw; (try dsimp only at hSw); go_simp; try with_reducible rfl)
          try simp only [Act.put, List.setIfInBounds_toArray, List.set_cons_zero, List.set_cons_succ]
          refine take_on (i := 15) (some 135) (v := ?vr89) rfl rfl (by kernel_rfl) (by kernel_rfl) (by kernel_rfl) (fun _ _ _ h => h) (by rfl) ?hyr89 (by with_reducible exact hHeld) ?restr89
          case hyr89 => (intro wS hSw; (try dsimp only at hSw); go_simp; try with_reducible rfl)
          try simp only [Act.put, List.setIfInBounds_toArray, List.set_cons_zero, List.set_cons_succ]
          refine wpAnyH_done (by kernel_rfl) ?_ _
          refine NoPanic.normal ?_
          obtain ⟨w5, hw5⟩ : ∃ w5, w5 = w4.drew := ⟨_, rfl⟩
          rw [← hw5] at S5 GR5 ⊢
          clear hw5 S4 GH4
          by_cases hmw : most ≤ wait
          · have qe : w5.cell? ⟨Q, 6, none⟩ = some (.int .i64 0) := S5.out.req.cell 6
            have fe := S5.out.req.frozen 6
            have SE := Lib.hid (S5.out.err1 4)
            have HMW := Lib.hid hmw
            go_wp2
            go_end0
            refine acq_post (V' := V) HM.out HX.out (h' := L (x * 2)) (r' := L (x * 2 + 1)) (d := 0) (ok' := false) (err' := 4) ?_ ?_
            · unfold acqL
              rw [if_neg HNO.out, if_neg HNF.out, if_pos HMW.out]
            · rw [upd_id2]
              simpa using SE.out
          · have HNW := Lib.hid hmw
            go_wp2_with fail
            have Sa := Lib.hid (S5.out.below (((Below.refl w5.heap.size w5).alloc (Nat.le_refl _) (.cells #[.int .i64 owner, .int .i64 mode] 96)).drew))
            have Ga := Lib.hid (show GSl encP 2 96 (w5.alloc (.cells #[.int .i64 owner, .int .i64 mode] 96)).drew Ar cr (L (x * 2 + 1)) from GR5.out.chg ((Chg.alloc (fun _ _ => False) w5 (.cells #[.int .i64 owner, .int .i64 mode] 96)).drew) encP_len fun _ _ _ h => h)
            have Rn := Lib.hid (show RdS encP 2 (w5.alloc (.cells #[.int .i64 owner, .int .i64 mode] 96)).drew (some ⟨w5.heap.size, 0, none⟩) [(owner, mode)] from (RdS.new1 encP 2 w5 96 (owner, mode)))
            have ch0 : w5.drew.cell? ⟨E, x * 2 + 1, none⟩ = some (.slice Ar rn cr) := by show w5.cell? _ = _; rw [S5.out.tab.cell i1, ER.out]
            have ch1 : (w5.alloc (.cells #[.int .i64 owner, .int .i64 mode] 96)).drew.cell? ⟨E, x * 2 + 1, none⟩ = some (.slice Ar rn cr) := by rw [Sa.out.tab.cell i1, ER.out]
            have SF0 := Lib.hid (show w5.drew.cell? ⟨Q, 3, none⟩ = some (.int .i64 owner) ∧ w5.drew.cell? ⟨Q, 2, none⟩ = some (.int .i64 mode) from ⟨S5.out.req.cell 3, S5.out.req.cell 2⟩)
            have SFa := Lib.hid (show (w5.alloc (.cells #[.int .i64 owner, .int .i64 mode] 96)).drew.cell? ⟨Q, 3, none⟩ = some (.int .i64 owner) ∧ (w5.alloc (.cells #[.int .i64 owner, .int .i64 mode] 96)).drew.cell? ⟨Q, 2, none⟩ = some (.int .i64 mode) from ⟨Sa.out.req.cell 3, Sa.out.req.cell 2⟩)
            refine wp_region_noPanic ?_
            refine wp_region_held_drew (S := fun w' => w'.cell? ⟨Q, 3, none⟩ = some (.int .i64 owner) ∧ w'.cell? ⟨Q, 2, none⟩ = some (.int .i64 mode)) (by kernel_rfl) (SF0.out) (fun hHeld => ?_)
            refine take_on (i := 0) (some 45) (v := ?vr90) rfl rfl (by kernel_rfl) (by kernel_rfl) (by kernel_rfl) (fun _ _ _ h => h) (by rfl) ?hyr90 (by with_reducible exact hHeld) ?restr90
            case hyr90 => (intro wS hSw; (try dsimp only at hSw); go_simp; try with_reducible rfl)
            try simp only [Act.put, List.setIfInBounds_toArray, List.set_cons_zero, List.set_cons_succ]
            refine take_on (i := 1) (some 46) (v := ?vr91) rfl rfl (by kernel_rfl) (by kernel_rfl) (by kernel_rfl) (fun _ _ _ h => h) (by rfl) ?hyr91 (by with_reducible exact hHeld) ?restr91
            case hyr91 => (intro wS hSw; (try dsimp only at hSw); go_simp; try with_reducible rfl)
            try simp only [Act.put, List.setIfInBounds_toArray, List.set_cons_zero, List.set_cons_succ]
            refine take_on (i := 2) (some 47) (v := ?vr92) rfl rfl (by kernel_rfl) (by kernel_rfl) (by kernel_rfl) (fun _ _ _ h => h) (by rfl) ?hyr92 (by with_reducible exact hHeld) ?restr92
            case hyr92 => (intro wS hSw; (try dsimp only at hSw); go_simp; try with_reducible rfl)
            try simp only [Act.put, List.setIfInBounds_toArray, List.set_cons_zero, List.set_cons_succ]
            refine take_on (i := 3) (some 48) (v := ?vr93) rfl rfl (by kernel_rfl) (by kernel_rfl) (by kernel_rfl) (fun _ _ _ h => h) (by rfl) ?hyr93 (by with_reducible exact hHeld) ?restr93
            case hyr93 => (intro wS hSw; (try dsimp only at hSw); go_simp; try with_reducible rfl)
            try simp only [Act.put, List.setIfInBounds_toArray, List.set_cons_zero, List.set_cons_succ]
            refine take_on (i := 5) (some 50) (v := ?vr94) rfl rfl (by kernel_rfl) (by kernel_rfl) (by kernel_rfl) (fun _ _ _ h => h) (by rfl) ?hyr94 (by with_reducible exact hHeld) ?restr94
            case hyr94 => (intro wS hSw; (try dsimp only at hSw); go_simp; try with_reducible rfl)
            try simp only [Act.put, List.setIfInBounds_toArray, List.set_cons_zero, List.set_cons_succ]
            refine take_on (i := 6) (some 51) (v := ?vr95) rfl rfl (by kernel_rfl) (by kernel_rfl) (by kernel_rfl) (fun _ _ _ h => h) (by rfl) ?hyr95 (by with_reducible exact hHeld) ?restr95
            case hyr95 => (intro wS hSw; (try dsimp only at hSw); go_simp; try with_reducible rfl)
            try simp only [Act.put, List.setIfInBounds_toArray, List.set_cons_zero, List.set_cons_succ]
            refine take_on (i := 7) (some 52) (v := ?vr96) rfl rfl (by kernel_rfl) (by kernel_rfl) (by kernel_rfl) (fun _ _ _ h => h) (by rfl) ?hyr96 (by with_reducible exact hHeld) ?restr96
            case hyr96 => (intro wS hSw; (try dsimp only at hSw); go_simp; try with_reducible rfl)
            try simp only [Act.put, List.setIfInBounds_toArray, List.set_cons_zero, List.set_cons_succ]
            refine take_on (i := 8) (some 53) (v := ?vr97) rfl rfl (by kernel_rfl) (by kernel_rfl) (by kernel_rfl) (fun _ _ _ h => h) (by rfl) ?hyr97 (by with_reducible exact hHeld) ?restr97
            case hyr97 => (intro wS hSw; (try dsimp only at hSw); go_simp; try with_reducible rfl)
            try simp only [Act.put, List.setIfInBounds_toArray, List.set_cons_zero, List.set_cons_succ]
            refine take_on (i := 9) (some 54) (v := ?vr98) rfl rfl (by kernel_rfl) (by kernel_rfl) (by kernel_rfl) (fun _ _ _ h => h) (by rfl) ?hyr98 (by with_reducible exact hHeld) ?restr98
            case hyr98 => (intro wS hSw; (try dsimp only at hSw); go_simp; try with_reducible rfl)
            try simp only [Act.put, List.setIfInBounds_toArray, List.set_cons_zero, List.set_cons_succ]
            refine take_on (i := 10) (some 55) (v := ?vr99) rfl rfl (by kernel_rfl) (by kernel_rfl) (by kernel_rfl) (fun _ _ _ h => h) (by rfl) ?hyr99 (by with_reducible exact hHeld) ?restr99
            case hyr99 => (intro wS hSw; (try dsimp only at hSw); go_simp; try with_reducible rfl)
            try simp only [Act.put, List.setIfInBounds_toArray, List.set_cons_zero, List.set_cons_succ]
            refine take_on (i := 11) (some 56) (v := ?vr100) rfl rfl (by kernel_rfl) (by kernel_rfl) (by kernel_rfl) (fun _ _ _ h => h) (by rfl) ?hyr100 (by with_reducible exact hHeld) ?restr100
            case hyr100 => (intro wS hSw; (try dsimp only at hSw); go_simp; try with_reducible rfl)
            try simp only [Act.put, List.setIfInBounds_toArray, List.set_cons_zero, List.set_cons_succ]
            refine take_on (i := 12) (some 57) (v := ?vr101) rfl rfl (by kernel_rfl) (by kernel_rfl) (by kernel_rfl) (fun _ _ _ h => h) (by rfl) ?hyr101 (by with_reducible exact hHeld) ?restr101
            case hyr101 => (intro wS hSw; (try dsimp only at hSw); go_simp; try with_reducible rfl)
            try simp only [Act.put, List.setIfInBounds_toArray, List.set_cons_zero, List.set_cons_succ]
            refine take_on (i := 13) (some 58) (v := ?vr102) rfl rfl (by kernel_rfl) (by kernel_rfl) (by kernel_rfl) (fun _ _ _ h => h) (by rfl) ?hyr102 (by with_reducible exact hHeld) ?restr102
            case hyr102 => (intro wS hSw; (try dsimp only at hSw); go_simp; try with_reducible rfl)
            try simp only [Act.put, List.setIfInBounds_toArray, List.set_cons_zero, List.set_cons_succ]
            refine wpAnyH_ready (rs := [4, 14]) (by kernel_rfl) (by simp) ?_
            refine AllReadyH.cons rfl (fun K hK => ?_) ?_
            · go_simp
              refine hK.out _ _ (SF0.out) (fun hHeld => ?_)
              clear hK K
              try simp only [Act.put, List.setIfInBounds_toArray, List.set_cons_zero, List.set_cons_succ]
              refine wpAnyH_ready (rs := [14]) (by kernel_rfl) (by simp) ?_
              refine AllReadyH.cons rfl (fun K hK => ?_) AllReadyH.nil
              go_simp
              refine hK.out _ _ (SFa.out) (fun hHeld => ?_)
              clear hK K
              try simp only [Act.put, List.setIfInBounds_toArray, List.set_cons_zero, List.set_cons_succ]
              refine wpAnyH_ready (rs := [15]) (by kernel_rfl) (by simp) ?_
              refine AllReadyH.cons rfl (fun K hK => ?_) AllReadyH.nil
              refine step_appendG pTy (by decide) encP_len encP_one (by rfl) (.tmp 49) (.tmp 59) (by rfl) Ar cr (L (x * 2 + 1)) (by rw [← HRN.out]; rfl) Ga.out (some ⟨w5.heap.size, 0, none⟩) 1 [(owner, mode)] (by rfl) Rn.out (by rw [← HRN.out]; simp only [maxLen, List.length_singleton]; omega) (by rw [← HRN.out]; simp only [List.length_singleton]; omega) ?_
              intro A' c' w2 h4 k4 q4
              have hFk : ∀ k j, slFp 2 Ar (L (x * 2 + 1)).length cr k j → (V (x * 2 + 1)).ownBlock = some k := fun k j hf => by rw [ER.out]; exact slFp_own hf (by rcases hAr with h | ⟨g, h, _⟩; exact .inl h; exact .inr ⟨g, h⟩)
              have ex2 := k4.blk Sa.out.tab.ex fun j hf => by obtain ⟨_, cs, hb⟩ := (Sa.out.tab.own (x * 2 + 1) i1).blk (hFk _ _ hf); exact blk_type_ne hb Sa.out.tab.ex (by decide) rfl
              have rq2 := k4.blk Sa.out.req fun j hf => by obtain ⟨_, cs, hb⟩ := (Sa.out.tab.own (x * 2 + 1) i1).blk (hFk _ _ hf); exact blk_type_ne hb Sa.out.req (by decide) rfl
              have SF2 := Lib.hid (show w2.cell? ⟨Q, 3, none⟩ = some (.int .i64 owner) ∧ w2.cell? ⟨Q, 2, none⟩ = some (.int .i64 mode) from ⟨rq2.cell 3, rq2.cell 2⟩)
              have ca2 : w2.cell? ⟨E, x * 2 + 1, none⟩ = some (.slice Ar rn cr) := by rw [ex_at ex2 i1, ER.out]
              have fa2 := ex2.frozen (x * 2 + 1)
              have hlp : (L (x * 2 + 1) ++ [(owner, mode)]).length = rn + 1 := by rw [List.length_append, HRN.out]; rfl
              have ho2 : OwnP w2 base (.slice A' (L (x * 2 + 1) ++ [(owner, mode)]).length c') (L (x * 2 + 1) ++ [(owner, mode)]) := ⟨A', c', rfl, h4, by
                rcases q4 with ⟨e1, _⟩ | ⟨g', e1, hg'⟩
                · rw [e1]; exact hAr
                · refine .inr ⟨g', e1, ?_⟩
                  have h5 := S5.out.tab.fpLt (k := E) (.inr (.inl rfl))
                  have h6 : w5.heap.size ≤ g' := Nat.le_trans (by simp [World.drew]) hg'
                  omega⟩
              have SP := Sa.out.put i1 k4 hFk ho2 (fun k e => by
                rcases q4 with ⟨e1, _⟩ | ⟨g', e1, hg'⟩
                · subst e1
                  left
                  rw [ER.out]
                  rcases hAr with e2 | ⟨g2, e2, _⟩
                  · subst e2; cases e
                  · subst e2; exact e
                · subst e1
                  cases e
                  exact .inr hg')
              rw [hlp] at SP ⊢
              have HSP := Lib.hid SP
              have SF3 := Lib.hid (show (w2.setCell ⟨E, x * 2 + 1, none⟩ (.slice A' (rn + 1) c')).cell? ⟨Q, 3, none⟩ = some (.int .i64 owner) ∧ (w2.setCell ⟨E, x * 2 + 1, none⟩ (.slice A' (rn + 1) c')).cell? ⟨Q, 2, none⟩ = some (.int .i64 mode) from ⟨HSP.out.req.cell 3, HSP.out.req.cell 2⟩)
              clear h4 k4 q4 hFk ex2 rq2 ho2 SP hlp
              refine hK.out _ _ SF2.out (fun hHeld => ?_)
              clear hK K
              try simp only [Act.put, List.setIfInBounds_toArray, List.set_cons_zero, List.set_cons_succ]
              refine take_on (i := 16) (some 61) (v := ?vr103) rfl rfl (by kernel_rfl) (by kernel_rfl) (by kernel_rfl) (fun _ _ _ h => h) (by rfl) ?hyr103 (by with_reducible exact hHeld) ?restr103
              case hyr103 => (intro wS hSw; (try dsimp only at hSw); go_simp; try with_reducible rfl)
              try simp only [Act.put, List.setIfInBounds_toArray, List.set_cons_zero, List.set_cons_succ]
              refine take_on (i := 17) (some 62) (v := ?vr104) rfl rfl (by kernel_rfl) (by kernel_rfl) (by kernel_rfl) (fun _ _ _ h => h) (by rfl) ?hyr104 (by with_reducible exact hHeld) ?restr104
              case hyr104 => (intro wS hSw; (try dsimp only at hSw); go_simp; try with_reducible rfl)
              try simp only [Act.put, List.setIfInBounds_toArray, List.set_cons_zero, List.set_cons_succ]
              refine wpAnyH_ready (rs := [18]) (by kernel_rfl) (by simp) ?_
              refine AllReadyH.cons rfl (fun K hK => ?_) AllReadyH.nil
              go_simp
              refine hK.out _ _ (SF3.out) (fun hHeld => ?_)
              clear hK K
              try simp only [Act.put, List.setIfInBounds_toArray, List.set_cons_zero, List.set_cons_succ]
              refine wpAnyH_done (by kernel_rfl) ?_ _
              refine NoPanic.normal ?_
              have HW3 := Lib.hid HSP.out
              obtain ⟨W3, hW3⟩ : ∃ W3, W3 = w2.setCell ⟨E, x * 2 + 1, none⟩ (.slice A' (rn + 1) c') := ⟨_, rfl⟩
              rw [← hW3] at HW3 ⊢
              clear hW3 HSP SF3 SF2 ca2 fa2 SF0 SFa ch0 ch1 Ga Rn Sa
              have ct4 : W3.cell? ⟨T, 4, none⟩ = some (.int .i64 wait) := HW3.out.tab.tb.cell 4
              have ft4 := HW3.out.tab.tb.frozen 4
              have cq5 : W3.cell? ⟨Q, 0, none⟩ = some (.pointer (some ⟨T, 0, none⟩)) := HW3.out.req.cell 0
              have ww : IntKind.i64.wrap (wait + 1) = wait + 1 := i64_in_ _ (by omega)
              have SO := Lib.hid (HW3.out.waits (wait + 1))
              go_wp2
              go_end0
              refine acq_post HM.out HX.out (h' := L (x * 2)) (r' := L (x * 2 + 1) ++ [(owner, mode)]) (d := 1) (ok' := false) (err' := 0) ?_ (V' := upd V (x * 2 + 1) (.slice A' (rn + 1) c')) ?_
              · unfold acqL
                rw [if_neg HNO.out, if_neg HNF.out, if_neg (by have := HNW.out; omega)]
              · have e1 : upd (upd L (x * 2) (L (x * 2))) (x * 2 + 1) (L (x * 2 + 1) ++ [(owner, mode)]) = upd L (x * 2 + 1) (L (x * 2 + 1) ++ [(owner, mode)]) := by rw [upd_self]
                rw [e1]
                exact SO.out
            · refine AllReadyH.cons rfl (fun K hK => ?_) AllReadyH.nil
              go_simp
              refine hK.out _ _ (SFa.out) (fun hHeld => ?_)
              clear hK K
              try simp only [Act.put, List.setIfInBounds_toArray, List.set_cons_zero, List.set_cons_succ]
              refine wpAnyH_ready (rs := [4]) (by kernel_rfl) (by simp) ?_
              refine AllReadyH.cons rfl (fun K hK => ?_) AllReadyH.nil
              go_simp
              refine hK.out _ _ (SFa.out) (fun hHeld => ?_)
              clear hK K
              try simp only [Act.put, List.setIfInBounds_toArray, List.set_cons_zero, List.set_cons_succ]
              refine wpAnyH_ready (rs := [15]) (by kernel_rfl) (by simp) ?_
              refine AllReadyH.cons rfl (fun K hK => ?_) AllReadyH.nil
              refine step_appendG pTy (by decide) encP_len encP_one (by rfl) (.tmp 49) (.tmp 59) (by rfl) Ar cr (L (x * 2 + 1)) (by rw [← HRN.out]; rfl) Ga.out (some ⟨w5.heap.size, 0, none⟩) 1 [(owner, mode)] (by rfl) Rn.out (by rw [← HRN.out]; simp only [maxLen, List.length_singleton]; omega) (by rw [← HRN.out]; simp only [List.length_singleton]; omega) ?_
              intro A' c' w2 h4 k4 q4
              have hFk : ∀ k j, slFp 2 Ar (L (x * 2 + 1)).length cr k j → (V (x * 2 + 1)).ownBlock = some k := fun k j hf => by rw [ER.out]; exact slFp_own hf (by rcases hAr with h | ⟨g, h, _⟩; exact .inl h; exact .inr ⟨g, h⟩)
              have ex2 := k4.blk Sa.out.tab.ex fun j hf => by obtain ⟨_, cs, hb⟩ := (Sa.out.tab.own (x * 2 + 1) i1).blk (hFk _ _ hf); exact blk_type_ne hb Sa.out.tab.ex (by decide) rfl
              have rq2 := k4.blk Sa.out.req fun j hf => by obtain ⟨_, cs, hb⟩ := (Sa.out.tab.own (x * 2 + 1) i1).blk (hFk _ _ hf); exact blk_type_ne hb Sa.out.req (by decide) rfl
              have SF2 := Lib.hid (show w2.cell? ⟨Q, 3, none⟩ = some (.int .i64 owner) ∧ w2.cell? ⟨Q, 2, none⟩ = some (.int .i64 mode) from ⟨rq2.cell 3, rq2.cell 2⟩)
              have ca2 : w2.cell? ⟨E, x * 2 + 1, none⟩ = some (.slice Ar rn cr) := by rw [ex_at ex2 i1, ER.out]
              have fa2 := ex2.frozen (x * 2 + 1)
              have hlp : (L (x * 2 + 1) ++ [(owner, mode)]).length = rn + 1 := by rw [List.length_append, HRN.out]; rfl
              have ho2 : OwnP w2 base (.slice A' (L (x * 2 + 1) ++ [(owner, mode)]).length c') (L (x * 2 + 1) ++ [(owner, mode)]) := ⟨A', c', rfl, h4, by
                rcases q4 with ⟨e1, _⟩ | ⟨g', e1, hg'⟩
                · rw [e1]; exact hAr
                · refine .inr ⟨g', e1, ?_⟩
                  have h5 := S5.out.tab.fpLt (k := E) (.inr (.inl rfl))
                  have h6 : w5.heap.size ≤ g' := Nat.le_trans (by simp [World.drew]) hg'
                  omega⟩
              have SP := Sa.out.put i1 k4 hFk ho2 (fun k e => by
                rcases q4 with ⟨e1, _⟩ | ⟨g', e1, hg'⟩
                · subst e1
                  left
                  rw [ER.out]
                  rcases hAr with e2 | ⟨g2, e2, _⟩
                  · subst e2; cases e
                  · subst e2; exact e
                · subst e1
                  cases e
                  exact .inr hg')
              rw [hlp] at SP ⊢
              have HSP := Lib.hid SP
              have SF3 := Lib.hid (show (w2.setCell ⟨E, x * 2 + 1, none⟩ (.slice A' (rn + 1) c')).cell? ⟨Q, 3, none⟩ = some (.int .i64 owner) ∧ (w2.setCell ⟨E, x * 2 + 1, none⟩ (.slice A' (rn + 1) c')).cell? ⟨Q, 2, none⟩ = some (.int .i64 mode) from ⟨HSP.out.req.cell 3, HSP.out.req.cell 2⟩)
              clear h4 k4 q4 hFk ex2 rq2 ho2 SP hlp
              refine hK.out _ _ SF2.out (fun hHeld => ?_)
              clear hK K
              try simp only [Act.put, List.setIfInBounds_toArray, List.set_cons_zero, List.set_cons_succ]
              refine take_on (i := 16) (some 61) (v := ?vr105) rfl rfl (by kernel_rfl) (by kernel_rfl) (by kernel_rfl) (fun _ _ _ h => h) (by rfl) ?hyr105 (by with_reducible exact hHeld) ?restr105
              case hyr105 => (intro wS hSw; (try dsimp only at hSw); go_simp; try with_reducible rfl)
              try simp only [Act.put, List.setIfInBounds_toArray, List.set_cons_zero, List.set_cons_succ]
              refine take_on (i := 17) (some 62) (v := ?vr106) rfl rfl (by kernel_rfl) (by kernel_rfl) (by kernel_rfl) (fun _ _ _ h => h) (by rfl) ?hyr106 (by with_reducible exact hHeld) ?restr106
              case hyr106 => (intro wS hSw; (try dsimp only at hSw); go_simp; try with_reducible rfl)
              try simp only [Act.put, List.setIfInBounds_toArray, List.set_cons_zero, List.set_cons_succ]
              refine wpAnyH_ready (rs := [18]) (by kernel_rfl) (by simp) ?_
              refine AllReadyH.cons rfl (fun K hK => ?_) AllReadyH.nil
              go_simp
              refine hK.out _ _ (SF3.out) (fun hHeld => ?_)
              clear hK K
              try simp only [Act.put, List.setIfInBounds_toArray, List.set_cons_zero, List.set_cons_succ]
              refine wpAnyH_done (by kernel_rfl) ?_ _
              refine NoPanic.normal ?_
              have HW3 := Lib.hid HSP.out
              obtain ⟨W3, hW3⟩ : ∃ W3, W3 = w2.setCell ⟨E, x * 2 + 1, none⟩ (.slice A' (rn + 1) c') := ⟨_, rfl⟩
              rw [← hW3] at HW3 ⊢
              clear hW3 HSP SF3 SF2 ca2 fa2 SF0 SFa ch0 ch1 Ga Rn Sa
              have ct4 : W3.cell? ⟨T, 4, none⟩ = some (.int .i64 wait) := HW3.out.tab.tb.cell 4
              have ft4 := HW3.out.tab.tb.frozen 4
              have cq5 : W3.cell? ⟨Q, 0, none⟩ = some (.pointer (some ⟨T, 0, none⟩)) := HW3.out.req.cell 0
              have ww : IntKind.i64.wrap (wait + 1) = wait + 1 := i64_in_ _ (by omega)
              have SO := Lib.hid (HW3.out.waits (wait + 1))
              go_wp2
              go_end0
              refine acq_post HM.out HX.out (h' := L (x * 2)) (r' := L (x * 2 + 1) ++ [(owner, mode)]) (d := 1) (ok' := false) (err' := 0) ?_ (V' := upd V (x * 2 + 1) (.slice A' (rn + 1) c')) ?_
              · unfold acqL
                rw [if_neg HNO.out, if_neg HNF.out, if_neg (by have := HNW.out; omega)]
              · have e1 : upd (upd L (x * 2) (L (x * 2))) (x * 2 + 1) (L (x * 2 + 1) ++ [(owner, mode)]) = upd L (x * 2 + 1) (L (x * 2 + 1) ++ [(owner, mode)]) := by rw [upd_self]
                rw [e1]
                exact SO.out
end Go.Proofs.Ytkjbjfjgnponfaa
