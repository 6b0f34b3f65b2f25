/- Package bitmap: Next, All, by contract. -/
import Derived.Test.YtdhccjmokmdboaaDoorWkC
import Derived.Test.YtdhccjmokmdboaaDoorRf
import Derived.Shelf.Abstract
import Derived.Shelf.RegionOpen
import Derived.OwnWalkIn
import Derived.TacticsInMore
import Derived.LoopNIn
import Derived.LoopIn
namespace Go.Proofs.YtdhccjmokmdboaaDoor
open Go.RowKit
set_option linter.unusedVariables false
set_option linter.unusedSimpArgs false
/-- a bitmap that holds these words -/
structure BmOk (w : World) (M n : Nat) (ws : List Nat) (gw ga : Nat) (us : List Nat) : Prop where
  bm : Bm w M gw ga n ws us
  ok : okW n ws
  up : Above ws us
  ub : ∀ x ∈ us, x < 18446744073709551616
  ul : us.length = (ws.length + 63) / 64
  tab : TabW w
section
variable {w w' : World} {M gw ga n : Nat} {ws us : List Nat} {F : Nat → Nat → Prop}
theorem BmOk.chg (h : BmOk w M n ws gw ga us) (hc : Chg F w w') (h1 : ∀ i, ¬ F M i) (h2 : ∀ i, ¬ F gw i) (h3 : ∀ i, ¬ F ga i) (h4 : ∀ i, ¬ F 0 i) : BmOk w' M n ws gw ga us :=
  ⟨h.bm.chg hc h1 h2 h3, h.ok, h.up, h.ub, h.ul, h.tab.chg hc h4⟩
theorem BmOk.drewN (h : BmOk w M n ws gw ga us) (m : Nat) : BmOk (w.drewN m) M n ws gw ga us := h.chg ((Chg.refl (fun _ _ => False) w).drewN m) (fun _ h => h) (fun _ h => h) (fun _ h => h) fun _ h => h
set_option maxRecDepth 20000 in
set_option maxHeartbeats 4000000 in
theorem bm_next_any (f : Nat) (h : BmOk w M n ws gw ga us) (hn : n ≤ 65536) (hf : f ≤ 65536) : Calls Tryd.prog 31 #[.pointer (some ⟨M, 0, none⟩), .int .i64 (f : Int)] w fun e w' => ∃ r : Int, e = .returned (.int .i64 r) ∧ NextP ws n f r ∧ w = w' := by
  obtain ⟨cnt, hbk⟩ := h.bm.blk
  obtain ⟨L, hL⟩ : ∃ L, L = ws.length := ⟨_, rfl⟩
  obtain ⟨U, hU⟩ : ∃ U, U = us.length := ⟨_, rfl⟩
  have m0 : w.cell? ⟨M, 0, none⟩ = some (.int .i64 (n : Int)) := hbk.cell 0
  have m1 : w.cell? ⟨M, 1, none⟩ = some (.slice (some ⟨gw, 0, none⟩) L L) := by rw [hL]; exact hbk.cell 1
  have m2 : w.cell? ⟨M, 2, none⟩ = some (.slice (some ⟨ga, 0, none⟩) U U) := by rw [hU]; exact hbk.cell 2
  have hlen := h.ok.1
  have hul := h.ul
  have H := Lib.hid h
  have HL := Lib.hid hL
  have HU := Lib.hid hU
  have hLn : L = (n + 63) / 64 := by omega
  have hUL : U = (L + 63) / 64 := by omega
  have HLn := Lib.hid hLn
  have HUL := Lib.hid hUL
  have hLb : L ≤ 1024 := by omega
  have hUb : U ≤ 16 := by omega
  have TZ := Lib.hid (fun (x : Nat) (hx : x < 18446744073709551616) (h0 : x ≠ 0) => tz_any x hx h0 w H.out.tab)
  clear h hbk hlen hul hL hU hLn hUL
  by_cases hfn : n ≤ f
  · have hfi : (n : Int) ≤ (f : Int) := by omega
    have hf0 : ¬ (f : Int) < 0 := by omega
    go_enter Tryd.func31, Tryd.ntmps31
    go_wp2
    go_ret
    exact ⟨_, rfl, .inr ⟨rfl, fun j h1 h2 => by omega⟩, rfl⟩
  · have hfi : ¬ (n : Int) ≤ (f : Int) := by omega
    have hf0 : ¬ (f : Int) < 0 := by omega
    have hfL : f / 64 < L := by have := HLn.out; omega
    have q0 := H.out.bm.word (k := f / 64) (by rw [← HL.out]; exact hfL)
    have hqb := H.out.ok.lt (f / 64)
    obtain ⟨q, hq⟩ : ∃ q, q = ws.getD (f / 64) 0 := ⟨_, rfl⟩
    obtain ⟨x, hx⟩ : ∃ x, x = q / 2 ^ (f % 64) := ⟨_, rfl⟩
    have hcast : (q : Int) / 2 ^ (f % 64) = (x : Int) := by rw [hx, Int.natCast_ediv, Int.natCast_pow]; rfl
    have hxb : x < 18446744073709551616 := by rw [hx]; exact Nat.lt_of_le_of_lt (Nat.div_le_self _ _) (by rw [hq]; exact hqb)
    rw [← hq] at q0
    have hfLi : (f : Int) / 64 < (L : Int) := by omega
    have HQ := Lib.hid hq
    have HX := Lib.hid hx
    clear hq hx hqb
    by_cases hx0 : x = 0
    · subst hx0
      have hno := first_none (f := f) H.out.ok (by rw [← HQ.out, ← HX.out])
      have HNO := Lib.hid hno
      clear hno
      go_enter Tryd.func31, Tryd.ntmps31
      go_wp2_with fail
      go_loopw [5] (fun t5 wr => ∃ (k : Nat), t5 = .int .i64 (k : Int) ∧ wr = w ∧ k ≤ 2048 ∧ f / 64 < k ∧ Hid (∀ j, f ≤ j → j < 64 * k → bitW ws j = false)) (fun t5 _ => 4096 - (intOf t5).toNat)
      case atStart => exact ⟨f / 64 + 1, by go_num, rfl, by omega, by omega, HNO⟩
      case round =>
        obtain ⟨k, rfl, rfl, hk, hfk, hcl⟩ := hrel
        by_cases hlk : k < L
        · have hlk' : (k : Int) < (L : Int) := by omega
          have hku : k / 64 < U := by have := HUL.out; omega
          have hkui : (k : Int) / 64 < (U : Int) := by omega
          have a0 := H.out.bm.up (k := k / 64) (by rw [← HU.out]; exact hku)
          obtain ⟨p, hp⟩ : ∃ p, p = us.getD (k / 64) 0 := ⟨_, rfl⟩
          obtain ⟨y, hy⟩ : ∃ y, y = p / 2 ^ (k % 64) := ⟨_, rfl⟩
          have hcast2 : (p : Int) / 2 ^ (k % 64) = (y : Int) := by rw [hy, Int.natCast_ediv, Int.natCast_pow]; rfl
          rw [← hp] at a0
          have HP := Lib.hid hp
          have HY := Lib.hid hy
          by_cases hy0 : y = 0
          · subst hy0
            have hcl2 := Lib.hid (skip_up H.out.up (by rw [← HU.out]; omega) hcl.out (by rw [← HP.out, ← HY.out]))
            clear hp hy
            go_wp2_with fail
            go_roundw
            case rel => exact ⟨(k / 64 + 1) * 64, by go_num, by first | rfl | trivial, by omega, by omega, hcl2⟩
            case measure => simp [intOf]; omega
          · have hup := next_up (f := f) H.out.ok H.out.up H.out.ub (k := k) (by rw [← HU.out]; omega) hcl.out (by omega) (by rw [← HP.out, ← HY.out]; exact hy0)
            rw [← HP.out, ← HY.out] at hup
            obtain ⟨t, ht⟩ : ∃ t, t = Go.Lib.ctz 64 y := ⟨_, rfl⟩
            have hpb : p < 18446744073709551616 := by
              rw [hp, List.getD_eq_getElem?_getD]
              cases hz : us[k / 64]? with
              | none => simp
              | some z => exact H.out.ub z (List.mem_of_getElem? hz)
            have hyb : y < 18446744073709551616 := by rw [hy]; exact Nat.lt_of_le_of_lt (Nat.div_le_self _ _) hpb
            have T1 := TZ.out y hyb hy0
            rw [← ht] at hup T1
            obtain ⟨hup1, hup2, hup3⟩ := hup
            have htb : t < 64 := by rw [ht]; exact (ctz_bits hy0 hyb).1
            obtain ⟨z, hz⟩ : ∃ z, z = ws.getD (k + t) 0 := ⟨_, rfl⟩
            have z0 := H.out.bm.word (k := k + t) hup1
            rw [← hz] at z0 hup2 hup3
            have hzb : z < 18446744073709551616 := by rw [hz]; exact H.out.ok.lt _
            have T2 := TZ.out z hzb hup2
            obtain ⟨c, hc⟩ : ∃ c, c = Go.Lib.ctz 64 z := ⟨_, rfl⟩
            have hcb : c < 64 := by rw [hc]; exact (ctz_bits hup2 hzb).1
            rw [← hc] at T2 hup3
            rw [← HL.out] at hup1
            have hy1 : ((y : Int) == 0) = false := by rw [beq_eq_false_iff_ne]; omega
            have HT1 := Lib.hid T1
            have HT2 := Lib.hid T2
            have HN := Lib.hid hup3
            have hkt : ((k : Int) + (t : Int)) < (L : Int) := by omega
            obtain ⟨kt, hkt2⟩ : ∃ kt, kt = k + t := ⟨_, rfl⟩
            have e1 : (k : Int) + (t : Int) = (kt : Int) := by omega
            have hktL : (kt : Int) < (L : Int) := by omega
            have hktb : kt ≤ 1024 := by omega
            rw [← hkt2] at z0 HN
            have HN2 := Lib.hid (show NextP ws n f (64 * (kt : Int) + (c : Int)) from by have := HN.out; rwa [Int.natCast_add, Int.natCast_mul] at this)
            clear hp hy ht hz hc T1 T2 hup3 hup2 hkt hkt2 hup1 HN
            go_wp2_with (first | (go_at_call 34; (with_reducible refine HT1.out.mono ?_); rintro e w' ⟨rfl, rfl⟩) | (go_at_call 34; (with_reducible refine HT2.out.mono ?_); rintro e w' ⟨rfl, rfl⟩))
            go_ret
            exact ⟨_, rfl, HN2.out, rfl⟩
        · have hcl2 := hcl.out
          have hLn := HLn.out
          have hlk' : ¬ (k : Int) < (L : Int) := by omega
          have hfin : NextP ws n f (-1) := .inr ⟨rfl, fun j h1 h2 => hcl2 j h1 (by omega)⟩
          have HF := Lib.hid hfin
          clear hcl2 hLn hfin
          go_wp2_with fail
          go_ret
          exact ⟨_, rfl, HF.out, rfl⟩
    · have hx1 : ((x : Int) != 0) = true := by rw [bne_iff_ne]; omega
      have hnf := next_first (f := f) H.out.ok (by omega) (by rw [← HQ.out, ← HX.out]; exact hx0)
      rw [← HQ.out, ← HX.out] at hnf
      have T1 := TZ.out x hxb hx0
      obtain ⟨t, ht⟩ : ∃ t, t = Go.Lib.ctz 64 x := ⟨_, rfl⟩
      have htb : t < 64 := by rw [ht]; exact (ctz_bits hx0 hxb).1
      rw [← ht] at hnf T1
      rw [Int.natCast_add] at hnf
      have HN := Lib.hid hnf
      have HT1 := Lib.hid T1
      clear ht hnf T1
      go_enter Tryd.func31, Tryd.ntmps31
      go_wp2_with (first | (go_at_call 34; (with_reducible refine HT1.out.mono ?_); rintro e w' ⟨rfl, rfl⟩))
      go_ret
      exact ⟨_, rfl, HN.out, rfl⟩
end
end Go.Proofs.YtdhccjmokmdboaaDoor
