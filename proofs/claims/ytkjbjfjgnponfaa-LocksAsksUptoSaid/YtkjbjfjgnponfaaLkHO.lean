/- Package locks: Release, Holders, Waiters, Drop, by contract: the list that is handed out with its room. -/
import Derived.Test.YtkjbjfjgnponfaaLkS
namespace Go.Proofs.Ytkjbjfjgnponfaa
open Go.RowKit
set_option linter.unusedSimpArgs false
set_option linter.unusedVariables false
/-- a list that was handed out, with its room -/
def KO (v : World) (A : Option Addr) (c : Nat) (l : List Int) : Prop := GSl enc1 1 3 v A c l ∧ (A = none ∨ ∃ g, A = some ⟨g, 0, none⟩)
theorem KO.kept {v : World} {A : Option Addr} {c : Nat} {l : List Int} (h : KO v A c l) : KeptL v A l := by
  refine ⟨rd_of_g h.1, fun ad e => ?_⟩
  rcases h.1 with ⟨h2, _⟩ | ⟨g2, o2, cs2, h2, _, _, h3, _⟩
  · rw [h2] at e; cases e
  · rw [h2] at e; cases e; exact ⟨cs2, h3⟩
theorem KO.le {v : World} {A : Option Addr} {c : Nat} {l : List Int} (h : KO v A c l) : l.length ≤ c := h.1.le
theorem KO.lt {v : World} {A : Option Addr} {c : Nat} {l : List Int} (h : KO v A c l) {ad : Addr} (e : A = some ad) : ad.block < v.heap.size := by
  obtain ⟨cs, hb⟩ := h.kept.2 ad e
  exact hb.lt
theorem KO.chg {v v' : World} {A : Option Addr} {c : Nat} {l : List Int} {F : Nat → Nat → Prop} (h : KO v A c l) (hC : Chg F v v') (hn : ∀ ad, A = some ad → ∀ i, ¬ F ad.block i) : KO v' A c l :=
  ⟨h.1.chg hC enc1_len fun g i hs hf => by obtain ⟨o, e, _⟩ := hs; exact hn _ e i hf, h.2⟩
theorem KO.below {v v' : World} {A : Option Addr} {c : Nat} {l : List Int} (h : KO v A c l) (hB : Below v.heap.size v v') : KO v' A c l := h.chg (Chg.of_below (fun _ _ => False) hB) fun _ _ _ h => h
theorem KO.keep {v v' : World} {A : Option Addr} {c : Nat} {l : List Int} {base T E n : Nat} {s most wait : Int} {V : Nat → Value} {L : Nat → List Pl} (h : KO v A c l) (ht : TabS base v T E n s most wait V L) (hC : Chg (fun k _ => Fp T E n V k) v v') : KO v' A c l :=
  h.chg hC fun ad e _ hf => by
    obtain ⟨cs, hb⟩ := h.kept.2 ad e
    rcases hf with hf | hf | ⟨j, hj, hf⟩
    · exact blk_type_ne hb ht.tb (by decide) hf
    · exact blk_type_ne hb ht.ex (by decide) hf
    · obtain ⟨_, cs2, hb2⟩ := (ht.own j hj).blk hf
      exact blk_type_ne hb hb2 (by decide) rfl
set_option maxRecDepth 20000 in
set_option maxHeartbeats 8000000 in
theorem releaseO_any (base T E n : Nat) (most ex owner : Int) (V : Nat → Value) (wait : Int) (L : Nat → List Pl) (w : World) (h : TabS base w T E n 0 most wait V L) (hn : n ≤ 4096) (hb : ∀ i, i < 2 * n → (L i).length ≤ 4000000000000) (hw : 0 ≤ wait ∧ wait ≤ 1000000) (hbr : ∀ i, i < 2 * n → i % 2 = 1 → (L i).length ≤ 1000000) :
    Calls Try.prog 22 #[.pointer (some ⟨T, 0, none⟩), .int .i64 ex, .int .i64 owner] w fun e w' => ∃ A c, e = .returned (.tuple #[.slice A (relT n L wait ex owner).2.2.1.length c, .int .i64 (relT n L wait ex owner).2.2.2]) ∧ KO w' A c (relT n L wait ex owner).2.2.1 ∧ (∀ ad, A = some ad → w.heap.size ≤ ad.block) ∧ ∃ V' : Nat → Value, TabS base w' T E n 0 most (relT n L wait ex owner).2.1 V' (relT n L wait ex owner).1 ∧ Chg (fun k _ => Fp T E n V k) w w' ∧ (∀ k, Fp T E n V' k → Fp T E n V k ∨ w.heap.size ≤ k) := by
  have h0 : (w.alloc (reqO T ex 0 owner)).cell? ⟨T, 0, none⟩ = some (.int .i32 0) := (h.tb.alloc _).cell 0
  have f0 := (h.tb.alloc (reqO T ex 0 owner)).frozen 0
  have S0 := start_of h ex 0 owner
  have g2 := Lib.hid (guarded_release T w.heap.size (w.alloc (reqO T ex 0 owner)) (FinP base w T E n w.heap.size most ex 0 owner false (relT n L wait ex owner).2.2.2 V (relT n L wait ex owner).2.1 (relT n L wait ex owner).1 (relT n L wait ex owner).2.2.1) h0 f0 ((release_any base T E n w.heap.size most ex 0 owner V (.slice none 0 0) wait L [] _ S0 hn hb hbr (by simp) hw).mono fun e w' hp => by
    obtain ⟨he, V', gv', hS⟩ := rel_fin hp
    exact ⟨he, fin_of h hS⟩))
  clear S0 h h0 f0
  go_enter Try.func22, Try.ntmps22
  go_wp2_with fail
  refine g2.out.mono ?_
  rintro e w2 ⟨rfl, V', gv, hT, hQ, hO, hC, hF⟩
  clear g2
  obtain ⟨Ag, cg, eg, hGg, hAg⟩ := hO
  subst eg
  have HT := Lib.hid hT
  have HQ := Lib.hid hQ
  have HG := Lib.hid hGg
  have HC := Lib.hid hC
  have HF := Lib.hid hF
  clear hT hQ hGg hC hF
  go_wp2_with fail
  refine wp_region_noPanic ?_
  refine wp_region_held_drew (S := fun w' => w'.cell? ⟨w.heap.size, 4, none⟩ = some (.slice Ag (relT n L wait ex owner).2.2.1.length cg) ∧ w'.cell? ⟨w.heap.size, 6, none⟩ = some (.int .i64 (relT n L wait ex owner).2.2.2)) (by kernel_rfl) (⟨HQ.out.cell 4, HQ.out.cell 6⟩) (fun hHeld => ?_)
  refine take_on (i := 0) (some 18) (v := ?vr1) rfl rfl (by kernel_rfl) (by kernel_rfl) (by kernel_rfl) (fun _ _ _ h => h) (by rfl) ?hyr1 (by with_reducible exact hHeld) ?restr1
  case hyr1 => (intro wS hSw; (try dsimp only at hSw); go_simp; try with_reducible rfl)
  try simp only [Act.put, List.setIfInBounds_toArray, List.set_cons_zero, List.set_cons_succ]
  refine take_on (i := 1) (some 19) (v := ?vr2) rfl rfl (by kernel_rfl) (by kernel_rfl) (by kernel_rfl) (fun _ _ _ h => h) (by rfl) ?hyr2 (by with_reducible exact hHeld) ?restr2
  case hyr2 => (intro wS hSw; (try dsimp only at hSw); go_simp; try with_reducible rfl)
  try simp only [Act.put, List.setIfInBounds_toArray, List.set_cons_zero, List.set_cons_succ]
  refine take_on (i := 2) (some 20) (v := ?vr3) rfl rfl (by kernel_rfl) (by kernel_rfl) (by kernel_rfl) (fun _ _ _ h => h) (by rfl) ?hyr3 (by with_reducible exact hHeld) ?restr3
  case hyr3 => (intro wS hSw; (try dsimp only at hSw); go_simp; try with_reducible rfl)
  try simp only [Act.put, List.setIfInBounds_toArray, List.set_cons_zero, List.set_cons_succ]
  refine take_on (i := 3) (some 21) (v := ?vr4) rfl rfl (by kernel_rfl) (by kernel_rfl) (by kernel_rfl) (fun _ _ _ h => h) (by rfl) ?hyr4 (by with_reducible exact hHeld) ?restr4
  case hyr4 => (intro wS hSw; (try dsimp only at hSw); go_simp; try with_reducible rfl)
  try simp only [Act.put, List.setIfInBounds_toArray, List.set_cons_zero, List.set_cons_succ]
  refine take_on (i := 4) (some 22) (v := ?vr5) rfl rfl (by kernel_rfl) (by kernel_rfl) (by kernel_rfl) (fun _ _ _ h => h) (by rfl) ?hyr5 (by with_reducible exact hHeld) ?restr5
  case hyr5 => (intro wS hSw; (try dsimp only at hSw); go_simp; try with_reducible rfl)
  try simp only [Act.put, List.setIfInBounds_toArray, List.set_cons_zero, List.set_cons_succ]
  refine take_on (i := 5) (some 23) (v := ?vr6) rfl rfl (by kernel_rfl) (by kernel_rfl) (by kernel_rfl) (fun _ _ _ h => h) (by rfl) ?hyr6 (by with_reducible exact hHeld) ?restr6
  case hyr6 => (intro wS hSw; (try dsimp only at hSw); go_simp; try with_reducible rfl)
  try simp only [Act.put, List.setIfInBounds_toArray, List.set_cons_zero, List.set_cons_succ]
  refine take_on (i := 6) (some 24) (v := ?vr7) rfl rfl (by kernel_rfl) (by kernel_rfl) (by kernel_rfl) (fun _ _ _ h => h) (by rfl) ?hyr7 (by with_reducible exact hHeld) ?restr7
  case hyr7 => (intro wS hSw; (try dsimp only at hSw); go_simp; try with_reducible rfl)
  try simp only [Act.put, List.setIfInBounds_toArray, List.set_cons_zero, List.set_cons_succ]
  refine take_on (i := 7) (some 25) (v := ?vr8) rfl rfl (by kernel_rfl) (by kernel_rfl) (by kernel_rfl) (fun _ _ _ h => h) (by rfl) ?hyr8 (by with_reducible exact hHeld) ?restr8
  case hyr8 => (intro wS hSw; (try dsimp only at hSw); go_simp; try with_reducible rfl)
  try simp only [Act.put, List.setIfInBounds_toArray, List.set_cons_zero, List.set_cons_succ]
  refine take_on (i := 8) (some 6) (v := ?vr9) rfl rfl (by kernel_rfl) (by kernel_rfl) (by kernel_rfl) (fun _ _ _ h => h) (by rfl) ?hyr9 (by with_reducible exact hHeld) ?restr9
  case hyr9 => (intro wS hSw; (try dsimp only at hSw); go_simp; try with_reducible rfl)
  try simp only [Act.put, List.setIfInBounds_toArray, List.set_cons_zero, List.set_cons_succ]
  refine take_on (i := 9) (some 7) (v := ?vr10) rfl rfl (by kernel_rfl) (by kernel_rfl) (by kernel_rfl) (fun _ _ _ h => h) (by rfl) ?hyr10 (by with_reducible exact hHeld) ?restr10
  case hyr10 => (intro wS hSw; (try dsimp only at hSw); go_simp; try with_reducible rfl)
  try simp only [Act.put, List.setIfInBounds_toArray, List.set_cons_zero, List.set_cons_succ]
  refine wpAnyH_done (by kernel_rfl) ?_ _
  refine NoPanic.normal ?_
  go_wp2
  first | go_ret2 | go_ret3
  exact ⟨Ag, cg, rfl, ⟨HG.out.chg (Chg.of_below (fun _ _ => False) (Below.refl _ _).drew) enc1_len fun _ _ _ h => h, hAg.imp id fun ⟨g, h, _⟩ => ⟨g, h⟩⟩, fun ad e => by
      rcases hAg with h | ⟨g, h, hb⟩
      · rw [h] at e; cases e
      · rw [h] at e; cases e; exact hb, V', HT.out.below (Below.refl _ _).drew, HC.out.drew, HF.out⟩
set_option maxRecDepth 20000 in
set_option maxHeartbeats 8000000 in
theorem holdersO_any (base T E n : Nat) (most ex : Int) (V : Nat → Value) (wait : Int) (L : Nat → List Pl) (w : World) (h : TabS base w T E n 0 most wait V L) (hn : n ≤ 4096) (hb : ∀ i, i < 2 * n → (L i).length ≤ 4000000000000) (hw : 0 ≤ wait ∧ wait ≤ 1000000) :
    Calls Try.prog 16 #[.pointer (some ⟨T, 0, none⟩), .int .i64 ex] w fun e w' => ∃ A c, e = .returned (.tuple #[.slice A (listT n L ex 0).1.length c, .int .i64 (listT n L ex 0).2.1, .int .i64 (listT n L ex 0).2.2]) ∧ KO w' A c (listT n L ex 0).1 ∧ (∀ ad, A = some ad → w.heap.size ≤ ad.block) ∧ ∃ V' : Nat → Value, TabS base w' T E n 0 most wait V' L ∧ Chg (fun k _ => Fp T E n V k) w w' ∧ (∀ k, Fp T E n V' k → Fp T E n V k ∨ w.heap.size ≤ k) := by
  have h0 : (w.alloc (reqO T ex 0 0)).cell? ⟨T, 0, none⟩ = some (.int .i32 0) := (h.tb.alloc _).cell 0
  have f0 := (h.tb.alloc (reqO T ex 0 0)).frozen 0
  have S0 := start_of h ex 0 0
  have g2 := Lib.hid (guarded_list T w.heap.size (w.alloc (reqO T ex 0 0)) (FinP base w T E n w.heap.size most ex (listT n L ex 0).2.1 0 false (listT n L ex 0).2.2 V wait L (listT n L ex 0).1) h0 f0 ((list_any base T E n w.heap.size most ex 0 0 V (.slice none 0 0) wait L [] _ S0 hn hb).mono fun e w' hp => by
    obtain ⟨he, gv', hS⟩ := list_fin hp
    exact ⟨he, fin_of h hS⟩))
  clear S0 h h0 f0
  go_enter Try.func16, Try.ntmps16
  go_wp2_with fail
  refine g2.out.mono ?_
  rintro e w2 ⟨rfl, V', gv, hT, hQ, hO, hC, hF⟩
  clear g2
  obtain ⟨Ag, cg, eg, hGg, hAg⟩ := hO
  subst eg
  have HT := Lib.hid hT
  have HQ := Lib.hid hQ
  have HG := Lib.hid hGg
  have HC := Lib.hid hC
  have HF := Lib.hid hF
  clear hT hQ hGg hC hF
  go_wp2_with fail
  refine wp_region_noPanic ?_
  refine wp_region_held_drew (S := fun w' => w'.cell? ⟨w.heap.size, 4, none⟩ = some (.slice Ag (listT n L ex 0).1.length cg) ∧ w'.cell? ⟨w.heap.size, 2, none⟩ = some (.int .i64 (listT n L ex 0).2.1) ∧ w'.cell? ⟨w.heap.size, 6, none⟩ = some (.int .i64 (listT n L ex 0).2.2)) (by kernel_rfl) (⟨HQ.out.cell 4, HQ.out.cell 2, HQ.out.cell 6⟩) (fun hHeld => ?_)
  refine take_on (i := 0) (some 16) (v := ?vr11) rfl rfl (by kernel_rfl) (by kernel_rfl) (by kernel_rfl) (fun _ _ _ h => h) (by rfl) ?hyr11 (by with_reducible exact hHeld) ?restr11
  case hyr11 => (intro wS hSw; (try dsimp only at hSw); go_simp; try with_reducible rfl)
  try simp only [Act.put, List.setIfInBounds_toArray, List.set_cons_zero, List.set_cons_succ]
  refine take_on (i := 1) (some 17) (v := ?vr12) rfl rfl (by kernel_rfl) (by kernel_rfl) (by kernel_rfl) (fun _ _ _ h => h) (by rfl) ?hyr12 (by with_reducible exact hHeld) ?restr12
  case hyr12 => (intro wS hSw; (try dsimp only at hSw); go_simp; try with_reducible rfl)
  try simp only [Act.put, List.setIfInBounds_toArray, List.set_cons_zero, List.set_cons_succ]
  refine take_on (i := 2) (some 18) (v := ?vr13) rfl rfl (by kernel_rfl) (by kernel_rfl) (by kernel_rfl) (fun _ _ _ h => h) (by rfl) ?hyr13 (by with_reducible exact hHeld) ?restr13
  case hyr13 => (intro wS hSw; (try dsimp only at hSw); go_simp; try with_reducible rfl)
  try simp only [Act.put, List.setIfInBounds_toArray, List.set_cons_zero, List.set_cons_succ]
  refine take_on (i := 3) (some 19) (v := ?vr14) rfl rfl (by kernel_rfl) (by kernel_rfl) (by kernel_rfl) (fun _ _ _ h => h) (by rfl) ?hyr14 (by with_reducible exact hHeld) ?restr14
  case hyr14 => (intro wS hSw; (try dsimp only at hSw); go_simp; try with_reducible rfl)
  try simp only [Act.put, List.setIfInBounds_toArray, List.set_cons_zero, List.set_cons_succ]
  refine take_on (i := 4) (some 20) (v := ?vr15) rfl rfl (by kernel_rfl) (by kernel_rfl) (by kernel_rfl) (fun _ _ _ h => h) (by rfl) ?hyr15 (by with_reducible exact hHeld) ?restr15
  case hyr15 => (intro wS hSw; (try dsimp only at hSw); go_simp; try with_reducible rfl)
  try simp only [Act.put, List.setIfInBounds_toArray, List.set_cons_zero, List.set_cons_succ]
  refine take_on (i := 5) (some 21) (v := ?vr16) rfl rfl (by kernel_rfl) (by kernel_rfl) (by kernel_rfl) (fun _ _ _ h => h) (by rfl) ?hyr16 (by with_reducible exact hHeld) ?restr16
  case hyr16 => (intro wS hSw; (try dsimp only at hSw); go_simp; try with_reducible rfl)
  try simp only [Act.put, List.setIfInBounds_toArray, List.set_cons_zero, List.set_cons_succ]
  refine take_on (i := 6) (some 22) (v := ?vr17) rfl rfl (by kernel_rfl) (by kernel_rfl) (by kernel_rfl) (fun _ _ _ h => h) (by rfl) ?hyr17 (by with_reducible exact hHeld) ?restr17
  case hyr17 => (intro wS hSw; (try dsimp only at hSw); go_simp; try with_reducible rfl)
  try simp only [Act.put, List.setIfInBounds_toArray, List.set_cons_zero, List.set_cons_succ]
  refine take_on (i := 7) (some 23) (v := ?vr18) rfl rfl (by kernel_rfl) (by kernel_rfl) (by kernel_rfl) (fun _ _ _ h => h) (by rfl) ?hyr18 (by with_reducible exact hHeld) ?restr18
  case hyr18 => (intro wS hSw; (try dsimp only at hSw); go_simp; try with_reducible rfl)
  try simp only [Act.put, List.setIfInBounds_toArray, List.set_cons_zero, List.set_cons_succ]
  refine take_on (i := 8) (some 24) (v := ?vr19) rfl rfl (by kernel_rfl) (by kernel_rfl) (by kernel_rfl) (fun _ _ _ h => h) (by rfl) ?hyr19 (by with_reducible exact hHeld) ?restr19
  case hyr19 => (intro wS hSw; (try dsimp only at hSw); go_simp; try with_reducible rfl)
  try simp only [Act.put, List.setIfInBounds_toArray, List.set_cons_zero, List.set_cons_succ]
  refine take_on (i := 9) (some 25) (v := ?vr20) rfl rfl (by kernel_rfl) (by kernel_rfl) (by kernel_rfl) (fun _ _ _ h => h) (by rfl) ?hyr20 (by with_reducible exact hHeld) ?restr20
  case hyr20 => (intro wS hSw; (try dsimp only at hSw); go_simp; try with_reducible rfl)
  try simp only [Act.put, List.setIfInBounds_toArray, List.set_cons_zero, List.set_cons_succ]
  refine take_on (i := 10) (some 26) (v := ?vr21) rfl rfl (by kernel_rfl) (by kernel_rfl) (by kernel_rfl) (fun _ _ _ h => h) (by rfl) ?hyr21 (by with_reducible exact hHeld) ?restr21
  case hyr21 => (intro wS hSw; (try dsimp only at hSw); go_simp; try with_reducible rfl)
  try simp only [Act.put, List.setIfInBounds_toArray, List.set_cons_zero, List.set_cons_succ]
  refine take_on (i := 11) (some 27) (v := ?vr22) rfl rfl (by kernel_rfl) (by kernel_rfl) (by kernel_rfl) (fun _ _ _ h => h) (by rfl) ?hyr22 (by with_reducible exact hHeld) ?restr22
  case hyr22 => (intro wS hSw; (try dsimp only at hSw); go_simp; try with_reducible rfl)
  try simp only [Act.put, List.setIfInBounds_toArray, List.set_cons_zero, List.set_cons_succ]
  refine take_on (i := 12) (some 4) (v := ?vr23) rfl rfl (by kernel_rfl) (by kernel_rfl) (by kernel_rfl) (fun _ _ _ h => h) (by rfl) ?hyr23 (by with_reducible exact hHeld) ?restr23
  case hyr23 => (intro wS hSw; (try dsimp only at hSw); go_simp; try with_reducible rfl)
  try simp only [Act.put, List.setIfInBounds_toArray, List.set_cons_zero, List.set_cons_succ]
  refine take_on (i := 13) (some 5) (v := ?vr24) rfl rfl (by kernel_rfl) (by kernel_rfl) (by kernel_rfl) (fun _ _ _ h => h) (by rfl) ?hyr24 (by with_reducible exact hHeld) ?restr24
  case hyr24 => (intro wS hSw; (try dsimp only at hSw); go_simp; try with_reducible rfl)
  try simp only [Act.put, List.setIfInBounds_toArray, List.set_cons_zero, List.set_cons_succ]
  refine take_on (i := 14) (some 6) (v := ?vr25) rfl rfl (by kernel_rfl) (by kernel_rfl) (by kernel_rfl) (fun _ _ _ h => h) (by rfl) ?hyr25 (by with_reducible exact hHeld) ?restr25
  case hyr25 => (intro wS hSw; (try dsimp only at hSw); go_simp; try with_reducible rfl)
  try simp only [Act.put, List.setIfInBounds_toArray, List.set_cons_zero, List.set_cons_succ]
  refine wpAnyH_done (by kernel_rfl) ?_ _
  refine NoPanic.normal ?_
  go_wp2
  first | go_ret2 | go_ret3
  exact ⟨Ag, cg, rfl, ⟨HG.out.chg (Chg.of_below (fun _ _ => False) (Below.refl _ _).drew) enc1_len fun _ _ _ h => h, hAg.imp id fun ⟨g, h, _⟩ => ⟨g, h⟩⟩, fun ad e => by
      rcases hAg with h | ⟨g, h, hb⟩
      · rw [h] at e; cases e
      · rw [h] at e; cases e; exact hb, V', HT.out.below (Below.refl _ _).drew, HC.out.drew, HF.out⟩
set_option maxRecDepth 20000 in
set_option maxHeartbeats 8000000 in
theorem waitersO_any (base T E n : Nat) (most ex : Int) (V : Nat → Value) (wait : Int) (L : Nat → List Pl) (w : World) (h : TabS base w T E n 0 most wait V L) (hn : n ≤ 4096) (hb : ∀ i, i < 2 * n → (L i).length ≤ 4000000000000) (hw : 0 ≤ wait ∧ wait ≤ 1000000) :
    Calls Try.prog 17 #[.pointer (some ⟨T, 0, none⟩), .int .i64 ex] w fun e w' => ∃ A c, e = .returned (.tuple #[.slice A (listT n L ex 1).1.length c, .int .i64 (listT n L ex 1).2.2]) ∧ KO w' A c (listT n L ex 1).1 ∧ (∀ ad, A = some ad → w.heap.size ≤ ad.block) ∧ ∃ V' : Nat → Value, TabS base w' T E n 0 most wait V' L ∧ Chg (fun k _ => Fp T E n V k) w w' ∧ (∀ k, Fp T E n V' k → Fp T E n V k ∨ w.heap.size ≤ k) := by
  have h0 : (w.alloc (reqO T ex 1 0)).cell? ⟨T, 0, none⟩ = some (.int .i32 0) := (h.tb.alloc _).cell 0
  have f0 := (h.tb.alloc (reqO T ex 1 0)).frozen 0
  have S0 := start_of h ex 1 0
  have g2 := Lib.hid (guarded_list T w.heap.size (w.alloc (reqO T ex 1 0)) (FinP base w T E n w.heap.size most ex (listT n L ex 1).2.1 0 false (listT n L ex 1).2.2 V wait L (listT n L ex 1).1) h0 f0 ((list_any base T E n w.heap.size most ex 1 0 V (.slice none 0 0) wait L [] _ S0 hn hb).mono fun e w' hp => by
    obtain ⟨he, gv', hS⟩ := list_fin hp
    exact ⟨he, fin_of h hS⟩))
  clear S0 h h0 f0
  go_enter Try.func17, Try.ntmps17
  go_wp2_with fail
  refine g2.out.mono ?_
  rintro e w2 ⟨rfl, V', gv, hT, hQ, hO, hC, hF⟩
  clear g2
  obtain ⟨Ag, cg, eg, hGg, hAg⟩ := hO
  subst eg
  have HT := Lib.hid hT
  have HQ := Lib.hid hQ
  have HG := Lib.hid hGg
  have HC := Lib.hid hC
  have HF := Lib.hid hF
  clear hT hQ hGg hC hF
  go_wp2_with fail
  refine wp_region_noPanic ?_
  refine wp_region_held_drew (S := fun w' => w'.cell? ⟨w.heap.size, 4, none⟩ = some (.slice Ag (listT n L ex 1).1.length cg) ∧ w'.cell? ⟨w.heap.size, 6, none⟩ = some (.int .i64 (listT n L ex 1).2.2)) (by kernel_rfl) (⟨HQ.out.cell 4, HQ.out.cell 6⟩) (fun hHeld => ?_)
  refine take_on (i := 0) (some 15) (v := ?vr26) rfl rfl (by kernel_rfl) (by kernel_rfl) (by kernel_rfl) (fun _ _ _ h => h) (by rfl) ?hyr26 (by with_reducible exact hHeld) ?restr26
  case hyr26 => (intro wS hSw; (try dsimp only at hSw); go_simp; try with_reducible rfl)
  try simp only [Act.put, List.setIfInBounds_toArray, List.set_cons_zero, List.set_cons_succ]
  refine take_on (i := 1) (some 16) (v := ?vr27) rfl rfl (by kernel_rfl) (by kernel_rfl) (by kernel_rfl) (fun _ _ _ h => h) (by rfl) ?hyr27 (by with_reducible exact hHeld) ?restr27
  case hyr27 => (intro wS hSw; (try dsimp only at hSw); go_simp; try with_reducible rfl)
  try simp only [Act.put, List.setIfInBounds_toArray, List.set_cons_zero, List.set_cons_succ]
  refine take_on (i := 2) (some 17) (v := ?vr28) rfl rfl (by kernel_rfl) (by kernel_rfl) (by kernel_rfl) (fun _ _ _ h => h) (by rfl) ?hyr28 (by with_reducible exact hHeld) ?restr28
  case hyr28 => (intro wS hSw; (try dsimp only at hSw); go_simp; try with_reducible rfl)
  try simp only [Act.put, List.setIfInBounds_toArray, List.set_cons_zero, List.set_cons_succ]
  refine take_on (i := 3) (some 18) (v := ?vr29) rfl rfl (by kernel_rfl) (by kernel_rfl) (by kernel_rfl) (fun _ _ _ h => h) (by rfl) ?hyr29 (by with_reducible exact hHeld) ?restr29
  case hyr29 => (intro wS hSw; (try dsimp only at hSw); go_simp; try with_reducible rfl)
  try simp only [Act.put, List.setIfInBounds_toArray, List.set_cons_zero, List.set_cons_succ]
  refine take_on (i := 4) (some 19) (v := ?vr30) rfl rfl (by kernel_rfl) (by kernel_rfl) (by kernel_rfl) (fun _ _ _ h => h) (by rfl) ?hyr30 (by with_reducible exact hHeld) ?restr30
  case hyr30 => (intro wS hSw; (try dsimp only at hSw); go_simp; try with_reducible rfl)
  try simp only [Act.put, List.setIfInBounds_toArray, List.set_cons_zero, List.set_cons_succ]
  refine take_on (i := 5) (some 20) (v := ?vr31) rfl rfl (by kernel_rfl) (by kernel_rfl) (by kernel_rfl) (fun _ _ _ h => h) (by rfl) ?hyr31 (by with_reducible exact hHeld) ?restr31
  case hyr31 => (intro wS hSw; (try dsimp only at hSw); go_simp; try with_reducible rfl)
  try simp only [Act.put, List.setIfInBounds_toArray, List.set_cons_zero, List.set_cons_succ]
  refine take_on (i := 6) (some 21) (v := ?vr32) rfl rfl (by kernel_rfl) (by kernel_rfl) (by kernel_rfl) (fun _ _ _ h => h) (by rfl) ?hyr32 (by with_reducible exact hHeld) ?restr32
  case hyr32 => (intro wS hSw; (try dsimp only at hSw); go_simp; try with_reducible rfl)
  try simp only [Act.put, List.setIfInBounds_toArray, List.set_cons_zero, List.set_cons_succ]
  refine take_on (i := 7) (some 22) (v := ?vr33) rfl rfl (by kernel_rfl) (by kernel_rfl) (by kernel_rfl) (fun _ _ _ h => h) (by rfl) ?hyr33 (by with_reducible exact hHeld) ?restr33
  case hyr33 => (intro wS hSw; (try dsimp only at hSw); go_simp; try with_reducible rfl)
  try simp only [Act.put, List.setIfInBounds_toArray, List.set_cons_zero, List.set_cons_succ]
  refine take_on (i := 8) (some 4) (v := ?vr34) rfl rfl (by kernel_rfl) (by kernel_rfl) (by kernel_rfl) (fun _ _ _ h => h) (by rfl) ?hyr34 (by with_reducible exact hHeld) ?restr34
  case hyr34 => (intro wS hSw; (try dsimp only at hSw); go_simp; try with_reducible rfl)
  try simp only [Act.put, List.setIfInBounds_toArray, List.set_cons_zero, List.set_cons_succ]
  refine take_on (i := 9) (some 5) (v := ?vr35) rfl rfl (by kernel_rfl) (by kernel_rfl) (by kernel_rfl) (fun _ _ _ h => h) (by rfl) ?hyr35 (by with_reducible exact hHeld) ?restr35
  case hyr35 => (intro wS hSw; (try dsimp only at hSw); go_simp; try with_reducible rfl)
  try simp only [Act.put, List.setIfInBounds_toArray, List.set_cons_zero, List.set_cons_succ]
  refine wpAnyH_done (by kernel_rfl) ?_ _
  refine NoPanic.normal ?_
  go_wp2
  first | go_ret2 | go_ret3
  exact ⟨Ag, cg, rfl, ⟨HG.out.chg (Chg.of_below (fun _ _ => False) (Below.refl _ _).drew) enc1_len fun _ _ _ h => h, hAg.imp id fun ⟨g, h, _⟩ => ⟨g, h⟩⟩, fun ad e => by
      rcases hAg with h | ⟨g, h, hb⟩
      · rw [h] at e; cases e
      · rw [h] at e; cases e; exact hb, V', HT.out.below (Below.refl _ _).drew, HC.out.drew, HF.out⟩
set_option maxRecDepth 20000 in
set_option maxHeartbeats 8000000 in
theorem dropO_any (base T E n i : Nat) (most owner : Int) (V : Nat → Value) (wait : Int) (L : Nat → List Pl) (w : World) (h : TabS base w T E n 0 most wait V L) (hn : n ≤ 4096) (hI : Inv n i L wait) (hi : i ≤ 4000000000000) (hw : wait ≤ 1000000) :
    Calls Try.prog 23 #[.pointer (some ⟨T, 0, none⟩), .int .i64 owner] w fun e w' => ∃ A c, e = .returned (.slice A (dropN n owner n L wait).2.2.length c) ∧ KO w' A c (dropN n owner n L wait).2.2 ∧ (∀ ad, A = some ad → w.heap.size ≤ ad.block) ∧ ∃ V' : Nat → Value, TabS base w' T E n 0 most (dropN n owner n L wait).2.1 V' (dropN n owner n L wait).1 ∧ Chg (fun k _ => Fp T E n V k) w w' ∧ (∀ k, Fp T E n V' k → Fp T E n V k ∨ w.heap.size ≤ k) := by
  have h0 : (w.alloc (reqO T 0 0 owner)).cell? ⟨T, 0, none⟩ = some (.int .i32 0) := (h.tb.alloc _).cell 0
  have f0 := (h.tb.alloc (reqO T 0 0 owner)).frozen 0
  have S0 := start_of h 0 0 owner
  have g2 := Lib.hid (guarded_drop T w.heap.size (w.alloc (reqO T 0 0 owner)) (FinP base w T E n w.heap.size most 0 0 owner false 0 V (dropN n owner n L wait).2.1 (dropN n owner n L wait).1 (dropN n owner n L wait).2.2) h0 f0 ((drop_any base T E n w.heap.size i most 0 0 owner V wait L _ S0 hn hI hi hw).mono fun e w' hp => by
    obtain ⟨he, V', gv', hS⟩ := hp
    exact ⟨he, fin_of h hS⟩))
  clear S0 h h0 f0 hI
  go_enter Try.func23, Try.ntmps23
  go_wp2_with fail
  refine g2.out.mono ?_
  rintro e w2 ⟨rfl, V', gv, hT, hQ, hO, hC, hF⟩
  clear g2
  obtain ⟨Ag, cg, eg, hGg, hAg⟩ := hO
  subst eg
  have HT := Lib.hid hT
  have HG := Lib.hid hGg
  have HA := Lib.hid hAg
  have HC := Lib.hid hC
  have HF := Lib.hid hF
  have q4 := hQ.cell 4
  have q4' : w2.cell? ⟨w.heap.size, 4, none⟩ = some (.slice Ag (dropN n owner n L wait).2.2.length cg) := q4
  clear hT hQ hGg hC hF hAg q4
  go_wp2
  go_ret
  exact ⟨Ag, cg, rfl, ⟨HG.out, HA.out.imp id fun ⟨g, h, _⟩ => ⟨g, h⟩⟩, fun ad e => by
    rcases HA.out with h | ⟨g, h, hb⟩
    · rw [h] at e; cases e
    · rw [h] at e; cases e; exact hb, V', HT.out, HC.out, HF.out⟩
end Go.Proofs.Ytkjbjfjgnponfaa
