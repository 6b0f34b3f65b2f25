/- SHA-256: the program's inner functions, by contract: rotr, schedule, mix. -/
import Derived.Test.YtepikbmlhejobaaDoorProg
import Derived.Test.YtepikbmlhejobaaDoorSha
import Derived.Test.YtepikbmlhejobaaDoorArr
import Derived.Test.YtepikbmlhejobaaDoorHeap
import Derived.Test.YtepikbmlhejobaaDoorLaw01a
import Derived.StillTailTactics
import Derived.Deep.RegionHeld3
namespace Go.Proofs.YtepikbmlhejobaaDoor
open Go.RowKit
theorem u32_shrP (x : UInt32) (n : Nat) (h : n < 32) : v32 x / (2 : Int) ^ n = v32 (x >>> UInt32.ofNat n) := u32_shr_ x n _ h (by simp)
theorem u32_shlP (x : UInt32) (n : Nat) (h : n < 32) : v32 x * (2 : Int) ^ n % 4294967296 = v32 (x <<< UInt32.ofNat n) := by
  unfold v32
  rw [UInt32.toNat_shiftLeft, UInt32.toNat_ofNat_of_lt' (by show n < 2 ^ 32; omega), Nat.mod_eq_of_lt h, Nat.shiftLeft_eq]
  rw [show (2 : Int) ^ n = ((2 ^ n : Nat) : Int) from by simp]
  omega
theorem rotr_bits (x : UInt32) (n : Nat) (h0 : 0 < n) (h1 : n < 32) : bits .or .u32 (v32 x / (2 : Int) ^ n) (v32 x * (2 : Int) ^ (32 - n) % 4294967296) = v32 (rotrL x n) := by
  rw [u32_shrP x n h1, u32_shlP x (32 - n) (by omega), u32_or_]
  rfl
theorem rotr_any (x : UInt32) (n : Nat) (h0 : 0 < n) (h1 : n < 32) (w : World) : Calls Tryd.prog 44 #[enc32 x, .int .u64 n] w fun e w' => e = .returned (enc32 (rotrL x n)) ∧ w = w' := by
  go_enter Tryd.func44, Tryd.ntmps44
  go_wp2
  go_ret
  exact ⟨ret_inj (rotr_bits x n h0 h1), rfl⟩
theorem rotr_z (x : UInt32) (z : Int) (h0 : 0 < z) (h1 : z < 32) (w : World) : Calls Tryd.prog 44 #[enc32 x, .int .u64 z] w fun e w' => e = .returned (enc32 (rotrL x z.toNat)) ∧ w = w' := by
  have := rotr_any x z.toNat (by omega) (by omega) w
  rwa [show ((z.toNat : Nat) : Int) = z from by omega] at this
theorem turn_any (x : UInt32) (n : Nat) (h0 : 0 < n) (h1 : n < 32) (w : World) : Calls Tryd.prog 50 #[enc32 x, .int .u32 n] w fun e w' => e = .returned (enc32 (rotrL x n)) ∧ w = w' := by
  go_enter Tryd.func50, Tryd.ntmps50
  go_wp2
  go_ret
  exact ⟨ret_inj (rotr_bits x n h0 h1), rfl⟩

theorem u32_shr3 (x : UInt32) : v32 x / (8 : Int) = v32 (x >>> 3) := u32_shr_ x 3 8 (by omega) rfl
theorem u32_shr10 (x : UInt32) : v32 x / (1024 : Int) = v32 (x >>> 10) := u32_shr_ x 10 1024 (by omega) rfl
attribute [local go_sem] signed_u32 max_u32 u32_not_ u8_to_u32 u32_xor_ u32_and_ u32_or_ u32_add_ u32_shr3 u32_shr10
theorem turn_z (x : UInt32) (z : Int) (h0 : 0 < z) (h1 : z < 32) (w : World) : Calls Tryd.prog 50 #[enc32 x, .int .u32 z] w fun e w' => e = .returned (enc32 (rotrL x z.toNat)) ∧ w = w' := by
  have := turn_any x z.toNat (by omega) (by omega) w
  rwa [show ((z.toNat : Nat) : Int) = z from by omega] at this
theorem word4_bits (a b c d : UInt8) : bits .or .u32 (bits .or .u32 (bits .or .u32 (IntKind.u32.wrap (IntKind.u32.wrap (vB a) * 16777216)) (IntKind.u32.wrap (IntKind.u32.wrap (vB b) * 65536))) (IntKind.u32.wrap (IntKind.u32.wrap (vB c) * 256))) (IntKind.u32.wrap (vB d)) = v32 (word4 a b c d) := by
  have e : ∀ x : UInt8, IntKind.u32.wrap (vB x) = v32 x.toUInt32 := fun x => by rw [IntKind.wrap_u32]; exact u8_to_u32 x
  have e24 : ∀ x : UInt32, IntKind.u32.wrap (v32 x * 16777216) = v32 (x <<< 24) := fun x => by rw [IntKind.wrap_u32]; exact u32_shlP x 24 (by omega)
  have e16 : ∀ x : UInt32, IntKind.u32.wrap (v32 x * 65536) = v32 (x <<< 16) := fun x => by rw [IntKind.wrap_u32]; exact u32_shlP x 16 (by omega)
  have e8 : ∀ x : UInt32, IntKind.u32.wrap (v32 x * 256) = v32 (x <<< 8) := fun x => by rw [IntKind.wrap_u32]; exact u32_shlP x 8 (by omega)
  rw [e, e, e, e, e24, e16, e8, u32_or_, u32_or_, u32_or_]
  rfl
theorem u32_addw (x y : UInt32) : IntKind.u32.wrap (v32 x + v32 y) = v32 (x + y) := by rw [IntKind.wrap_u32]; exact u32_add_ x y
theorem enc32_one (x : UInt32) : (enc32 x).oneCell' = true := rfl
theorem wTy : Tryd.prog.underlying 67 = some (.array 64 46) := Tryd.underlying67
theorem wSz0 : (Tryd.prog.info? 67).map (·.size) = some 64 := by kernel_rfl
theorem wSz {l : List UInt32} (h : l.length = 64) : (Tryd.prog.info? 67).map (·.size) = some (arr enc32 l).size := by rw [arr_size, h]; exact wSz0
theorem results_cell {fn : Func} {p : Tmp} {ty : TypeId} (h : fn.results = #[.cell p ty]) (tmps : Array Value) (P : Program) (w : World) :
    (results fn tmps).run P w = ((asAddr (tmps.getD p undef)).run P w).andThen fun a w₁ => (loadVar ty a).run P w₁ := by
  simp only [results, h]
  simp [Sem.run_bind, Result.andThen]
/-- a result that is a whole variable -/
theorem bodyPost_cell {P : Program} {fn : Func} {R : Ending → World → Prop} {a : Act} {w : World} {p : Tmp} {ty : TypeId} (h : fn.results = #[.cell p ty]) (g : Nat) (t : TypeId) (cs : Array Value) (fr : Nat × Nat) (d : TypeDesc)
    (hp : a.tmps.getD p undef = .pointer (some ⟨g, 0, none⟩)) (hg : w.heap[g]? = some (.cells cs t fr)) (hu : P.underlying ty = some d) (hd : (match d with | .struct _ | .array _ _ => true | _ => false) = true) (hi : (P.info? ty).map (·.size) = some cs.size)
    (hdef : a.defers = []) (hR : R (.returned (.agg cs)) w) : bodyPost P fn R .ret a w := by
  refine bodyPost_ret (v := .agg cs) ?_ hdef hR
  rw [results_cell h, hp]
  simp only [asAddr, Sem.run_pure, Result.andThen_ok, run_loadVar_row w g t ty cs fr d hg hu hd hi]
theorem zeroW : ∀ W : World, (zeroValue 67).run Tryd.prog W = .ok (.agg (arr enc32 (List.replicate 64 0))) W := fun _ => by kernel_rfl
def zero64 : List UInt32 := List.replicate 64 0
theorem zero64_len : zero64.length = 64 := by simp [zero64]
theorem zeroW' : ∀ W : World, (zeroValue 67).run Tryd.prog W = .ok (.agg (arr enc32 zero64)) W := zeroW
set_option maxRecDepth 20000 in
set_option maxHeartbeats 1000000 in
theorem schedule_any (c : List UInt8) (hc : c.length = 64) (w : World) : Calls Tryd.prog 43 #[.agg (arr encB c)] w fun e w' => e = .returned (.agg (arr enc32 (sched c 64))) ∧ Below w.heap.size w w' := by
  have hz := zeroW'
  have Hc := Lib.hid hc
  clear hc
  go_enter Tryd.func43, Tryd.ntmps43
  go_wp2_with fail
  obtain ⟨W, hW⟩ : ∃ W, W = ((w.alloc (.cells (arr encB c) 60)).alloc (.cells (arr enc32 zero64) 67)).alloc (.cells (arr enc32 zero64) 67) := ⟨_, rfl⟩
  obtain ⟨H, H1, H2, hH, hH1, hH2⟩ : ∃ H H1 H2, H = w.heap.size ∧ H1 = w.heap.size + 1 ∧ H2 = w.heap.size + 1 + 1 := ⟨_, _, _, rfl, rfl, rfl⟩
  have b0 : Blk W H 60 (arr encB c) := by rw [hW, hH]; exact ((Blk.new w _ _).alloc _).alloc _
  have b1 : Blk W H1 67 (arr enc32 zero64) := by
    have := (Blk.new (w.alloc (.cells (arr encB c) 60)) 67 (arr enc32 zero64)).alloc (.cells (arr enc32 zero64) 67)
    rw [World.size_alloc] at this
    rw [hW, hH1]; exact this
  have b2 : Blk W H2 67 (arr enc32 zero64) := by
    have := Blk.new ((w.alloc (.cells (arr encB c) 60)).alloc (.cells (arr enc32 zero64) 67)) 67 (arr enc32 zero64)
    rw [World.size_alloc, World.size_alloc] at this
    rw [hW, hH2]; exact this
  have bB : Below H w W := by rw [hW, hH]; exact (((Below.refl _ w).alloc (Nat.le_refl _) _).alloc (by simp) _).alloc (by simp; omega) _
  have h01 : H < H1 := by omega
  have h12 : H1 < H2 := by omega
  rw [← hW, ← hH2, ← hH1, ← hH]
  have HHH := Lib.hid hH
  clear hW hH hH1 hH2
  go_loopw [10] (fun t wr => ∃ k : Nat, k ≤ 16 ∧ t = .int .i64 k ∧ Blk wr H 60 (arr encB c) ∧ Blk wr H1 67 (arr enc32 zero64) ∧ Blk wr H2 67 (arr enc32 (schedZ c k)) ∧ Below H w wr) (fun t _ => 16 - (intOf t).toNat)
  case atStart => exact ⟨0, by omega, rfl, b0, b1, b2, bB⟩
  case round =>
    obtain ⟨k, hk, rfl, d0, d1, d2, dB⟩ := hrel
    clear b0 b1 b2 bB
    by_cases hlt : k < 16
    · have key : ∀ i, i < 64 → c[i]? = some (byteAt c i) := fun i hi => by
        unfold byteAt
        rw [List.getD_eq_getElem?_getD, List.getElem?_eq_getElem (by rw [Hc.out]; exact hi)]
        rfl
      have x0 : wr.cell? ⟨H, 4 * k, none⟩ = some (encB (byteAt c (4 * k))) := (d0.cell _).trans (arr_at (key _ (by omega)))
      have x1 : wr.cell? ⟨H, 4 * k + 1, none⟩ = some (encB (byteAt c (4 * k + 1))) := (d0.cell _).trans (arr_at (key _ (by omega)))
      have x2 : wr.cell? ⟨H, 4 * k + 2, none⟩ = some (encB (byteAt c (4 * k + 2))) := (d0.cell _).trans (arr_at (key _ (by omega)))
      have x3 : wr.cell? ⟨H, 4 * k + 3, none⟩ = some (encB (byteAt c (4 * k + 3))) := (d0.cell _).trans (arr_at (key _ (by omega)))
      have hw0 : IntKind.i64.wrap (4 * (k : Int)) = 4 * (k : Int) := i64_in_ _ (by omega)
      have hw1 : IntKind.i64.wrap (4 * (k : Int) + 1) = 4 * (k : Int) + 1 := i64_in_ _ (by omega)
      have hw2 : IntKind.i64.wrap (4 * (k : Int) + 2) = 4 * (k : Int) + 2 := i64_in_ _ (by omega)
      have hw3 : IntKind.i64.wrap (4 * (k : Int) + 3) = 4 * (k : Int) + 3 := i64_in_ _ (by omega)
      obtain ⟨z, hz⟩ : ∃ x, (schedZ c k)[k]? = some x := ⟨_, List.getElem?_eq_getElem (by rw [schedZ_len c (by omega)]; omega)⟩
      have xz : wr.cell? ⟨H2, k, none⟩ = some (enc32 z) := (d2.cell _).trans (arr_at hz)
      have fz := d2.frozen k
      have hwd : word4 (byteAt c (4 * k)) (byteAt c (4 * k + 1)) (byteAt c (4 * k + 2)) (byteAt c (4 * k + 3)) = (if k < 16 then wordAt c k else nextW (sched c k) k) := by rw [if_pos hlt]; rfl
      clear key hz
      have i0 : (0 : Int) ≤ 4 * (k : Int) ∧ 4 * (k : Int) < 64 := by omega
      have i1 : (0 : Int) ≤ 4 * (k : Int) + 1 ∧ 4 * (k : Int) + 1 < 64 := by omega
      have i2 : (0 : Int) ≤ 4 * (k : Int) + 2 ∧ 4 * (k : Int) + 2 < 64 := by omega
      have i3 : (0 : Int) ≤ 4 * (k : Int) + 3 ∧ 4 * (k : Int) + 3 < 64 := by omega
      have i4 : (0 : Int) ≤ (k : Int) ∧ (k : Int) < 64 := by omega
      have n0 : (4 * (k : Int)).toNat = 4 * k := by omega
      have n1 : (4 * (k : Int) + 1).toNat = 4 * k + 1 := by omega
      have n2 : (4 * (k : Int) + 2).toNat = 4 * k + 2 := by omega
      have n3 : (4 * (k : Int) + 3).toNat = 4 * k + 3 := by omega
      generalize byteAt c (4 * k) = u0 at *
      generalize byteAt c (4 * k + 1) = u1 at *
      generalize byteAt c (4 * k + 2) = u2 at *
      generalize byteAt c (4 * k + 3) = u3 at *
      have HWD := Lib.hid hwd
      clear hwd
      go_wp2_with fail
      go_still_tail 31, (by kernel_rfl)
      simp only [word4_bits]
      go_wp2
      go_roundw
      case rel =>
        have h2 := (d2.drewN 1).set_ k (enc32 (word4 u0 u1 u2 u3))
        have e2 : (schedZ c k).set k (word4 u0 u1 u2 u3) = schedZ c (k + 1) := by rw [HWD.out]; exact schedZ_set c (by omega)
        rw [arr_set, e2] at h2
        exact ⟨k + 1, by omega, by go_num, (d0.drewN 1).far (by show H ≠ H2; omega) _, (d1.drewN 1).far (by show H1 ≠ H2; omega) _, h2, (below_drewN dB 1).setCell (by show H ≤ H2; omega) _⟩
      case measure => simp [intOf]; omega
    · obtain rfl : k = 16 := by omega
      rw [show ((16 : Nat) : Int) = 16 from rfl]
      go_wp2_with fail
      go_loopw [5] (fun t wr => ∃ k : Nat, 16 ≤ k ∧ k ≤ 64 ∧ t = .int .i64 k ∧ Blk wr H 60 (arr encB c) ∧ Blk wr H1 67 (arr enc32 zero64) ∧ Blk wr H2 67 (arr enc32 (schedZ c k)) ∧ Below H w wr) (fun t _ => 64 - (intOf t).toNat)
      case atStart => exact ⟨16, by omega, by omega, rfl, d0, d1, d2, dB⟩
      case round =>
        obtain ⟨k, hk0, hk, rfl, e0, e1, e2, eB⟩ := hrel
        clear d0 d1 d2 dB
        by_cases hlt : k < 64
        · have x15 : wr.cell? ⟨H2, k - 15, none⟩ = some (enc32 (wAt (sched c k) (k - 15))) := (e2.cell _).trans (arr_at (schedZ_get c (by omega)))
          have x2 : wr.cell? ⟨H2, k - 2, none⟩ = some (enc32 (wAt (sched c k) (k - 2))) := (e2.cell _).trans (arr_at (schedZ_get c (by omega)))
          have x7 : wr.cell? ⟨H2, k - 7, none⟩ = some (enc32 (wAt (sched c k) (k - 7))) := (e2.cell _).trans (arr_at (schedZ_get c (by omega)))
          have x16 : wr.cell? ⟨H2, k - 16, none⟩ = some (enc32 (wAt (sched c k) (k - 16))) := (e2.cell _).trans (arr_at (schedZ_get c (by omega)))
          obtain ⟨z, hz⟩ : ∃ x, (schedZ c k)[k]? = some x := ⟨_, List.getElem?_eq_getElem (by rw [schedZ_len c (by omega)]; omega)⟩
          have xz : wr.cell? ⟨H2, k, none⟩ = some (enc32 z) := (e2.cell _).trans (arr_at hz)
          have fz := e2.frozen k
          have hwd : sg1 (wAt (sched c k) (k - 2)) + wAt (sched c k) (k - 7) + sg0 (wAt (sched c k) (k - 15)) + wAt (sched c k) (k - 16) = (if k < 16 then wordAt c k else nextW (sched c k) k) := by rw [if_neg (by omega)]; rfl
          have HWD := Lib.hid hwd
          have w15 : IntKind.i64.wrap ((k : Int) - 15) = (k : Int) - 15 := i64_in_ _ (by omega)
          have w2 : IntKind.i64.wrap ((k : Int) - 2) = (k : Int) - 2 := i64_in_ _ (by omega)
          have w7 : IntKind.i64.wrap ((k : Int) - 7) = (k : Int) - 7 := i64_in_ _ (by omega)
          have w16 : IntKind.i64.wrap ((k : Int) - 16) = (k : Int) - 16 := i64_in_ _ (by omega)
          have j15 : (0 : Int) ≤ (k : Int) - 15 ∧ (k : Int) - 15 < 64 := by omega
          have j2 : (0 : Int) ≤ (k : Int) - 2 ∧ (k : Int) - 2 < 64 := by omega
          have j7 : (0 : Int) ≤ (k : Int) - 7 ∧ (k : Int) - 7 < 64 := by omega
          have j16 : (0 : Int) ≤ (k : Int) - 16 ∧ (k : Int) - 16 < 64 := by omega
          have j0 : (0 : Int) ≤ (k : Int) ∧ (k : Int) < 64 := by omega
          have l15 : (15 : Int) ≤ (k : Int) := by omega
          have l2 : (2 : Int) ≤ (k : Int) := by omega
          have l7 : (7 : Int) ≤ (k : Int) := by omega
          have l16 : (16 : Int) ≤ (k : Int) := by omega
          have n15 : ((k : Int) - 15).toNat = k - 15 := by omega
          have n2 : ((k : Int) - 2).toNat = k - 2 := by omega
          have n7 : ((k : Int) - 7).toNat = k - 7 := by omega
          have n16 : ((k : Int) - 16).toNat = k - 16 := by omega
          have Hz := Lib.hid hz
          have Z7 := Lib.hid (schedZ_get c (show k - 7 < k by omega))
          have Z16 := Lib.hid (schedZ_get c (show k - 16 < k by omega))
          clear hz hwd
          generalize wAt (sched c k) (k - 15) = u15 at *
          generalize wAt (sched c k) (k - 2) = u2 at *
          generalize wAt (sched c k) (k - 7) = u7 at *
          generalize wAt (sched c k) (k - 16) = u16 at *
          go_wp2_with fail
          go_quiet (fail)
          go_wp2_with (go_at_call 44; (with_reducible refine (rotr_z _ _ (by omega) (by omega) _).mono ?_); rintro e w' ⟨rfl, rfl⟩)
          have hq := fun n => And.intro (e0.drewN n) (And.intro (e1.drewN n) (And.intro (e2.drewN n) (below_drewN eB n)))
          have Hq := Lib.hid (hq nq)
          generalize wr.drewN nq = wq at *
          clear x15 x2 x7 x16 xz fz hq e0 e1 e2 eB
          obtain ⟨e0, e1, e2, eB⟩ := Hq.out
          have x7 : wq.cell? ⟨H2, k - 7, none⟩ = some (enc32 u7) := (e2.cell _).trans (arr_at Z7.out)
          have x16 : wq.cell? ⟨H2, k - 16, none⟩ = some (enc32 u16) := (e2.cell _).trans (arr_at Z16.out)
          have xz : wq.cell? ⟨H2, k, none⟩ = some (enc32 z) := (e2.cell _).trans (arr_at Hz.out)
          have fz := e2.frozen k
          go_still_tail 15, (by kernel_rfl)
          try simp only [u32_addw]
          go_wp2
          go_roundw
          case rel =>
            have h2 := (e2.drewN 1).set_ k (enc32 (sg1 u2 + u7 + sg0 u15 + u16))
            have ee : (schedZ c k).set k (sg1 u2 + u7 + sg0 u15 + u16) = schedZ c (k + 1) := by rw [HWD.out]; exact schedZ_set c (by omega)
            rw [arr_set, ee] at h2
            exact ⟨k + 1, by omega, by omega, by go_num, (e0.drewN 1).far (by show H ≠ H2; omega) _, (e1.drewN 1).far (by show H1 ≠ H2; omega) _, h2, (below_drewN eB 1).setCell (by show H ≤ H2; omega) _⟩
          case measure => simp [intOf]; omega
        · obtain rfl : k = 64 := by omega
          rw [schedZ_all] at e2
          have e3 := eB
          have hln := sched_len c 64
          have Hln := Lib.hid hln
          clear hln
          go_wp2_with (first | ((with_reducible refine wpList_load_blk rfl 67 (.tmp 3) rfl H2 67 (arr enc32 (sched c 64)) ?hb rfl wTy rfl (wSz Hln.out) ?_); case hb => exact e2) | ((with_reducible refine wpList_store_blk rfl 67 (.tmp 2) (.tmp 88) rfl H1 67 (arr enc32 zero64) (arr enc32 (sched c 64)) ?hb rfl rfl (wSz Hln.out) (by rw [arr_size, arr_size, Hln.out, zero64_len]) (arr_one enc32_one _) ?_); case hb => exact e1); intro w1 hb3 hg3 hs3)
          refine bodyPost_cell rfl H1 67 _ (0, 0) _ rfl hb3 wTy rfl (wSz Hln.out) rfl ⟨rfl, ?_⟩
          have h3 := below_only e3 hg3 (show H ≤ wr.heap.size from by have := HHH.out; have := e3.size; omega) (show H ≤ H1 by omega)
          rw [HHH.out] at h3
          exact h3
end Go.Proofs.YtepikbmlhejobaaDoor
