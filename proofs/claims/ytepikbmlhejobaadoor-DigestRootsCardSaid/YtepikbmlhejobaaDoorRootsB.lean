/- Numbers as lists of digits: the reference's at, limbs, times, above, power, by contract. -/
import Derived.Test.YtepikbmlhejobaaDoorRootsA
import Derived.Test.YtepikbmlhejobaaDoorArr
import Derived.Test.YtepikbmlhejobaaDoorLaw01a
import Derived.Laws.MakeOwn
import Derived.BigQuiet
import Derived.Deep.DeepCutAuto
namespace Go.Proofs.YtepikbmlhejobaaDoor
open Go.RowKit
set_option linter.unusedSimpArgs false
abbrev encN (x : Nat) : Value := .int .i64 (x : Int)
theorem encN_one (x : Nat) : (encN x).oneCell' = true := rfl
theorem iTy : SlTy Tryd.prog 55 3 1 8 := SlTy.mk' (z := .int .i64 0) Tryd.underlying55 (by kernel_rfl) rfl
theorem mk_ints (n : Nat) (h : n ≤ 100) (W : World) :
    (Instr.makeSlice 55 (.int .i64 (n : Int)) (.int .i64 (n : Int))).run Tryd.prog W = .ok (.slice (some ⟨W.heap.size, 0, none⟩) n n) (W.alloc (.cells (arr encN (List.replicate n 0)) 3)) := by
  obtain ⟨i, z, hi, hz, hs, hb, hc⟩ := iTy.ex
  have e1 : (Tryd.prog.info? 3).map (·.zero) = some (some (.int .i64 0)) := by kernel_rfl
  rw [hi] at e1
  have e2 : z = .int .i64 0 := by
    simp only [Option.map_some, Option.some.injEq] at e1
    rw [hz] at e1
    exact Option.some.inj e1
  subst e2
  have h2 := run_make W 55 3 i (.int .i64 0) iTy.und hi hz .i64 .i64 (n : Int) (n : Int) (by omega) (by omega) (by rw [hb]; omega) (by omega)
  rw [h2]
  have e3 : madeCells (Value.int .i64 0).cells ((n : Int).toNat * i.size) = arr encN (List.replicate n 0) := by
    rw [hs, Int.toNat_natCast, Nat.mul_one]
    apply Array.ext'
    apply List.ext_getElem?
    intro k
    simp [madeCells, arr, Value.cells, Nat.mod_one]
    by_cases hk : k < n
    · simp [hk]
    · simp [hk]
  rw [e3]
  simp
theorem rd_blkN {w : World} {g t : Nat} {l : List Nat} (h : Blk w g t (arr encN l)) : Rd encN w (some ⟨g, 0, none⟩) l := fun i x hx => ⟨_, rfl, by rw [add_lit_, Nat.zero_add]; exact (h.cell _).trans (arr_at hx)⟩
theorem at_any (A : Option Addr) (c n i : Nat) (l : List Nat) (w : World) (hl : l.length = n) (_hn : n ≤ 9223372036854775807) (h : Rd encN w A l) :
    Calls Tryd.prog 51 #[.slice A n c, .int .i64 (i : Int)] w fun e w' => e = .returned (encN (dg l i)) ∧ w = w' := by
  by_cases hlt : i < n
  · obtain ⟨ad, x, rfl, hx, hc⟩ := h.at_ (show i < l.length by omega)
    have hlt' : (i : Int) < (n : Int) := by omega
    have hd := Lib.hid (dg_in hx)
    clear hx h
    go_enter Tryd.func51, Tryd.ntmps51
    go_wp2
    go_ret
    exact ⟨by rw [hd.out]; rfl, rfl⟩
  · have hlt' : ¬ (i : Int) < (n : Int) := by omega
    have hd := Lib.hid (dg_out (show l.length ≤ i by omega))
    go_enter Tryd.func51, Tryd.ntmps51
    go_wp2
    go_ret
    exact ⟨by rw [hd.out]; rfl, rfl⟩
def limbsL (x : Nat) : List Nat := [x % 65536, x / 65536 % 65536, x / 65536 / 65536]
theorem digs_limbs {x : Nat} (hx : x < 281474976710656) : Digs (limbsL x) := fun i => by
  match i with
  | 0 => show x % 65536 < 65536; omega
  | 1 => show x / 65536 % 65536 < 65536; omega
  | 2 => show x / 65536 / 65536 < 65536; omega
  | i + 3 => show (0 : Nat) < 65536; omega
theorem limbs_any (x : Nat) (hx : x < 281474976710656) (w : World) :
    Calls Tryd.prog 52 #[.int .i64 (x : Int)] w fun e w' => e = .returned (.slice (some ⟨w.heap.size, 0, none⟩) 3 3) ∧ Blk w' w.heap.size 3 (arr encN (limbsL x)) ∧ Below w.heap.size w w' := by
  have b0 := Blk.new w 3 (arr encN (limbsL x))
  have B0 := (Below.refl w.heap.size w).alloc (Nat.le_refl _) (.cells (arr encN (limbsL x)) 3)
  go_enter Tryd.func52, Tryd.ntmps52
  go_wp2
  go_ret
  exact ⟨rfl, b0, B0⟩
/-- what above answers -/
theorem above_any (A B : Option Addr) (ca cb la lb : Nat) (a b : List Nat) (w : World) (hla : a.length = la) (hlb : b.length = lb) (ha : la ≤ 100) (hb : lb ≤ 100) (da : Digs a) (db : Digs b) (ra : Rd encN w A a) (rb : Rd encN w B b) :
    Calls Tryd.prog 48 #[.slice A la ca, .slice B lb cb] w fun e w' => e = .returned (.bool (decide (valL b < valL a))) ∧ w = w' := by
  have HLA := Lib.hid hla
  have HLB := Lib.hid hlb
  have DA := Lib.hid da
  have DB := Lib.hid db
  have ga := Lib.hid fun i => at_any A ca la i a w hla (by omega) ra
  have gb := Lib.hid fun i => at_any B cb lb i b w hlb (by omega) rb
  obtain ⟨N, hN⟩ : ∃ N, N = max la lb := ⟨_, rfl⟩
  have hN1 : la ≤ N ∧ lb ≤ N ∧ N ≤ 100 ∧ (lb ≤ la → N = la) ∧ (la < lb → N = lb) := by omega
  obtain ⟨hn1, hn2, hn3, hn4, hn5⟩ := hN1
  have HN4 := Lib.hid hn4
  have HN5 := Lib.hid hn5
  clear hla hlb da db ra rb hN hn4 hn5
  go_enter Tryd.func48, Tryd.ntmps48
  go_upto_if 14 with fail
  go_cut [5] (fun t5 wx => t5 = .int .i64 (N : Int) ∧ wx = w)
  case first =>
    by_cases hlt : la < lb
    · have hlt' : (la : Int) < (lb : Int) := by omega
      have e := HN5.out hlt
      go_wp2
      go_meet
      exact ⟨by rw [e], rfl⟩
    · have hlt' : ¬ (la : Int) < (lb : Int) := by omega
      have e := HN4.out (by omega)
      go_wp2
      go_meet
      exact ⟨by rw [e], rfl⟩
  case rest =>
    obtain ⟨rfl, rfl⟩ := hcut
    go_wp2_with fail
    go_loop [6] (fun t6 => ∃ i : Nat, i ≤ N ∧ t6 = .int .i64 ((i : Int) - 1) ∧ Hid (∀ q, i ≤ q → dg a q = dg b q)) (fun t6 => (intOf t6 + 1).toNat)
    case atStart => exact ⟨N, Nat.le_refl _, rfl, Lib.hid fun q hq => (dg_out (by rw [HLA.out]; omega)).trans (dg_out (by rw [HLB.out]; omega)).symm⟩
    case round =>
      obtain ⟨i, hi, rfl, hag⟩ := hrel
      rcases Nat.eq_zero_or_pos i with h0 | h0
      · subst h0
        have hv := above_eq fun q => hag.out q (Nat.zero_le _)
        have HV := Lib.hid hv
        clear hv
        go_wp2
        go_ret
        exact ⟨by rw [decide_eq_false HV.out]; rfl, rfl⟩
      · obtain ⟨k, rfl⟩ : ∃ k, i = k + 1 := ⟨i - 1, by omega⟩
        rw [show ((k + 1 : Nat) : Int) - 1 = (k : Int) by omega]
        have g1 := Lib.hid (ga.out k)
        have g2 := Lib.hid (gb.out k)
        have hne := fun h => Lib.hid (above_ne hag.out h DA.out DB.out)
        have HNE := Lib.hid hne
        have hag2 := fun (h : dg a k = dg b k) => Lib.hid (show ∀ q, k ≤ q → dg a q = dg b q from fun q hq => by
          rcases Nat.lt_or_ge k q with h1 | h1
          · exact hag.out q h1
          · obtain rfl : q = k := by omega
            exact h)
        have HAG2 := Lib.hid hag2
        clear hne hag2
        obtain ⟨x, hx⟩ : ∃ x, x = dg a k := ⟨_, rfl⟩
        obtain ⟨y, hy⟩ : ∃ y, y = dg b k := ⟨_, rfl⟩
        rw [← hx] at g1
        rw [← hy] at g2
        have HX := Lib.hid hx
        have HY := Lib.hid hy
        clear hx hy
        by_cases he : x = y
        · subst he
          have he2 := Lib.hid (HAG2.out (HX.out.symm.trans HY.out))
          go_wp2_with fail
          refine g1.out.mono ?_
          rintro e w1 ⟨rfl, rfl⟩
          go_wp2_with fail
          refine g2.out.mono ?_
          rintro e w1 ⟨rfl, rfl⟩
          go_wp2
          go_round
          case rel => exact ⟨k, by omega, rfl, he2.out⟩
          case measure => simp [intOf]
        · have hne1 : ((x : Int) != (y : Int)) = true := by rw [bne_iff_ne]; omega
          have hv := HNE.out (fun e => he (HX.out.trans (e.trans HY.out.symm)))
          rw [← HX.out, ← HY.out] at hv
          clear he
          go_wp2_with fail
          refine g1.out.mono ?_
          rintro e w1 ⟨rfl, rfl⟩
          go_wp2_with fail
          refine g2.out.mono ?_
          rintro e w1 ⟨rfl, rfl⟩
          by_cases hgt : y < x
          · have hgt' : (y : Int) < (x : Int) := by omega
            go_wp2
            go_ret
            exact ⟨by rw [decide_eq_true (hv.out.2 hgt)]; rfl, rfl⟩
          · have hgt' : ¬ (y : Int) < (x : Int) := by omega
            go_wp2
            go_ret
            exact ⟨by rw [decide_eq_false (fun h => hgt (hv.out.1 h))]; rfl, rfl⟩
set_option maxHeartbeats 4000000 in
theorem times_any (ga gb ca cb la lb : Nat) (a b : List Nat) (w : World) (hla : a.length = la) (hlb : b.length = lb) (hs : la + lb ≤ 100) (da : Digs a) (db : Digs b) (ba : Blk w ga 3 (arr encN a)) (bb : Blk w gb 3 (arr encN b)) :
    Calls Tryd.prog 53 #[.slice (some ⟨ga, 0, none⟩) la ca, .slice (some ⟨gb, 0, none⟩) lb cb] w fun e w' => ∃ c : List Nat, e = .returned (.slice (some ⟨w.heap.size, 0, none⟩) (la + lb) (la + lb)) ∧ c.length = la + lb ∧ Digs c ∧ valL c = valL a * valL b ∧ Blk w' w.heap.size 3 (arr encN c) ∧ Below w.heap.size w w' := by
  have HLA := Lib.hid hla
  have HLB := Lib.hid hlb
  have DA := Lib.hid da
  have DB := Lib.hid db
  have BA := Lib.hid ba
  have BB := Lib.hid bb
  obtain ⟨N, hN⟩ : ∃ N, N = la + lb := ⟨_, rfl⟩
  have HNe := Lib.hid hN
  have hNi : (la : Int) + (lb : Int) = (N : Int) := by omega
  have mk := mk_ints N (by omega)
  have hga : ga < w.heap.size := ba.lt
  have hgb : gb < w.heap.size := bb.lt
  have b0 := Blk.new w 3 (arr encN (List.replicate N 0))
  have B0 : Below w.heap.size w (w.alloc (.cells (arr encN (List.replicate N 0)) 3)) := (Below.refl _ w).alloc (Nat.le_refl _) _
  rw [← hN]
  clear hla hlb da db ba bb hN
  go_enter Tryd.func53, Tryd.ntmps53
  go_wp2_with fail
  go_loopw [6] (fun t6 wr => ∃ (i : Nat) (c : List Nat), i ≤ la ∧ t6 = .int .i64 (i : Int) ∧ c.length = N ∧ Hid (Digs c) ∧ Hid (∀ q, i + lb ≤ q → dg c q = 0) ∧ Hid (valF (dg c) N = valF (dg a) i * valL b) ∧ Blk wr w.heap.size 3 (arr encN c) ∧ Below w.heap.size w wr) (fun t6 _ => la - (intOf t6).toNat)
  case atStart => exact ⟨0, List.replicate N 0, by omega, rfl, by simp, Lib.hid (fun q => by rw [dg_null]; omega), Lib.hid (fun q _ => dg_null _ q), Lib.hid (by rw [valF_null (dg_null N)]; simp [valF]), b0, B0⟩
  case round =>
    obtain ⟨i, c, hi, rfl, hcl, hdc, hz, hv, bC, hB⟩ := hrel
    clear b0 B0 hNi mk
    by_cases hlt : i < la
    · have hlt' : (i : Int) < (la : Int) := by omega
      obtain ⟨V0, hV0⟩ : ∃ V0, V0 = valF (dg c) N := ⟨_, rfl⟩
      obtain ⟨x, hx⟩ : ∃ x, x = dg a i := ⟨_, rfl⟩
      have xlt : x < 65536 := by rw [hx]; exact DA.out i
      have HV0 := Lib.hid hV0
      have HX := Lib.hid hx
      clear hV0 hx
      go_wp2_with fail
      go_loopw [7, 8] (fun t7 t8 wr => ∃ (j ca : Nat) (c' : List Nat), j ≤ lb ∧ ca < 65536 ∧ t7 = .int .i64 (ca : Int) ∧ t8 = .int .i64 (j : Int) ∧ c'.length = N ∧ Hid (Digs c') ∧ Hid (∀ q, i + lb ≤ q → dg c' q = 0) ∧ Hid (valF (dg c') N + ca * 65536 ^ (i + j) = V0 + x * 65536 ^ i * valF (dg b) j) ∧ Blk wr w.heap.size 3 (arr encN c') ∧ Below w.heap.size w wr) (fun _ t8 _ => lb - (intOf t8).toNat)
      case atStart => exact ⟨0, 0, c, by omega, by omega, rfl, rfl, hcl, hdc, hz, Lib.hid (by rw [HV0.out]; simp [valF]), bC, hB⟩
      case round =>
        obtain ⟨j, ca, c', hj, hca, rfl, rfl, hcl', hdc', hz', hv', bC', hB'⟩ := hrel
        clear bC hB hcl hdc hz
        have HCL := Lib.hid hcl'
        have fcl : i + lb < N := by have := HNe.out; omega
        clear hcl'
        by_cases hlt2 : j < lb
        · have hlt2' : (j : Int) < (lb : Int) := by omega
          obtain ⟨y, hy⟩ : ∃ y, y = dg b j := ⟨_, rfl⟩
          have ylt : y < 65536 := by rw [hy]; exact DB.out j
          obtain ⟨z, hzz⟩ : ∃ z, z = dg c' (i + j) := ⟨_, rfl⟩
          have zlt : z < 65536 := by rw [hzz]; exact hdc'.out _
          have cc : wr.cell? ⟨w.heap.size, i + j, none⟩ = some (encN z) := (bC'.cell _).trans (arr_at (by rw [hzz]; exact dg_get (by rw [HCL.out]; omega)))
          have fc := bC'.frozen (i + j)
          have ac : wr.cell? ⟨ga, i, none⟩ = some (encN x) := ((BA.out.below hB' hga).cell _).trans (arr_at (by rw [HX.out]; exact dg_get (by rw [HLA.out]; exact hlt)))
          have bc : wr.cell? ⟨gb, j, none⟩ = some (encN y) := ((BB.out.below hB' hgb).cell _).trans (arr_at (by rw [hy]; exact dg_get (by rw [HLB.out]; exact hlt2)))
          obtain ⟨xy, hxy⟩ : ∃ xy, xy = x * y := ⟨_, rfl⟩
          have hxyb : xy ≤ 4294836225 := by rw [hxy]; exact mul_small xlt ylt
          have hm : (x : Int) * (y : Int) = (xy : Int) := by rw [hxy]; simp
          have i0 : (0 : Int) ≤ (i : Int) + (j : Int) ∧ (i : Int) + (j : Int) < (N : Int) := by omega
          have n0 : ((i : Int) + (j : Int)).toNat = i + j := by omega
          have w1 : IntKind.i64.wrap ((i : Int) + (j : Int)) = (i : Int) + (j : Int) := i64_in_ _ (by omega)
          have w2 : IntKind.i64.wrap (xy : Int) = (xy : Int) := i64_in_ _ (by omega)
          have w3 : IntKind.i64.wrap ((z : Int) + (xy : Int)) = (z : Int) + (xy : Int) := i64_in_ _ (by omega)
          have w4 : IntKind.i64.wrap ((z : Int) + (xy : Int) + (ca : Int)) = (z : Int) + (xy : Int) + (ca : Int) := i64_in_ _ (by omega)
          have HY := Lib.hid hy
          have HZZ := Lib.hid hzz
          have HXY := Lib.hid hxy
          clear hy hzz hxy
          go_wp2_with fail
          go_quiet (fail)
          go_wp2
          go_roundw
          case rel =>
            have hp : i + j < c'.length := by rw [HCL.out]; omega
            have e1 : Value.int .i64 (((z : Int) + (xy : Int) + (ca : Int)) % 65536) = encN ((z + xy + ca) % 65536) := by unfold encN; congr 1
            have hst := valF_set (f := dg c') (x := (z + xy + ca) % 65536) (dg_set hp) (n := N) (by omega)
            rw [← HZZ.out] at hst
            have hin := inner_step (Nat.pow_add 65536 i j) (show z + xy + ca = z + x * y + ca by rw [HXY.out]) hst hv'.out
            refine ⟨j + 1, (z + xy + ca) / 65536, c'.set (i + j) ((z + xy + ca) % 65536), by omega, by omega, by go_num, by go_num, by rw [List.length_set]; exact HCL.out, Lib.hid (digs_set hdc'.out hp (by omega)), Lib.hid (fun q hq => by rw [dg_set hp, if_neg (by omega)]; exact hz'.out q hq), Lib.hid ?_, ?_, ?_⟩
            · rw [show valF (dg b) (j + 1) = valF (dg b) j + y * 65536 ^ j by rw [HY.out]; rfl]
              exact hin
            · rw [e1]
              have h2 := (bC'.drewN nq).set_ (i + j) (encN ((z + xy + ca) % 65536))
              rw [arr_set] at h2
              exact h2
            · exact (below_drewN hB' nq).setCell (Nat.le_refl _) _
          case measure => simp [intOf]; omega
        · obtain rfl : j = lb := by omega
          have hz0 : dg c' (i + j) = 0 := hz'.out _ (Nat.le_refl _)
          have cc : wr.cell? ⟨w.heap.size, i + j, none⟩ = some (.int .i64 0) := (bC'.cell _).trans (arr_at (enc := encN) (x := 0) (by rw [← hz0]; exact dg_get (by rw [HCL.out]; omega)))
          have fc := bC'.frozen (i + j)
          have i0 : (0 : Int) ≤ (i : Int) + (j : Int) ∧ (i : Int) + (j : Int) < (N : Int) := by omega
          have n0 : ((i : Int) + (j : Int)).toNat = i + j := by omega
          have w1 : IntKind.i64.wrap ((i : Int) + (j : Int)) = (i : Int) + (j : Int) := i64_in_ _ (by omega)
          have w2 : IntKind.i64.wrap (ca : Int) = (ca : Int) := i64_in_ _ (by omega)
          have HZ0 := Lib.hid hz0
          clear hz0
          go_wp2
          go_roundw
          case rel =>
            have hp : i + j < c'.length := by rw [HCL.out]; omega
            have hst := valF_set (f := dg c') (x := ca) (dg_set hp) (n := N) (by omega)
            rw [HZ0.out, Nat.zero_mul, Nat.add_zero] at hst
            refine ⟨i + 1, c'.set (i + j) ca, by omega, by go_num, by rw [List.length_set]; exact HCL.out, Lib.hid (digs_set hdc'.out hp (by omega)), Lib.hid (fun q hq => by rw [dg_set hp, if_neg (by omega)]; exact hz'.out q (by omega)), Lib.hid ?_, ?_, ?_⟩
            · rw [hst, hv'.out, HV0.out, hv.out, valL_eq b (Nat.le_of_eq HLB.out), show valF (dg a) (i + 1) = valF (dg a) i + x * 65536 ^ i by rw [HX.out]; rfl, Nat.add_mul]
            · have h2 := bC'.set_ (i + j) (encN ca)
              rw [arr_set] at h2
              exact h2
            · exact hB'.setCell (Nat.le_refl _) _
          case measure => simp [intOf]; omega
    · obtain rfl : i = la := by omega
      go_wp2
      go_ret
      refine ⟨c, rfl, hcl, hdc.out, ?_, ?_, ?_⟩
      · rw [valL_eq c (Nat.le_of_eq hcl), hv.out, ← HLA.out]; rfl
      · exact bC
      · exact hB
end Go.Proofs.YtepikbmlhejobaaDoor
