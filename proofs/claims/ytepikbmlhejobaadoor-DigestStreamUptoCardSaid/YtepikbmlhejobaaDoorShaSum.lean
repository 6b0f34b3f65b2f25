/- SHA-256: Sum, by contract. -/
import Derived.Test.YtepikbmlhejobaaDoorShaNew
import Derived.Test.YtepikbmlhejobaaDoorHex
namespace Go.Proofs.YtepikbmlhejobaaDoor
open Go.RowKit
set_option linter.unusedSimpArgs false

def zero32 : List UInt8 := List.replicate 32 0
theorem zero32_len : zero32.length = 32 := by simp [zero32]
theorem zeroA32 : ∀ W : World, (zeroValue 36).run Tryd.prog W = .ok (.agg (arr encB zero32)) W := fun _ => by kernel_rfl
def zeroT : List UInt8 := List.replicate 8 0
theorem zeroT_len : zeroT.length = 8 := by simp [zeroT]
theorem zeroA8 : ∀ W : World, (zeroValue 64).run Tryd.prog W = .ok (.agg (arr encB zeroT)) W := fun _ => by kernel_rfl
def zeroS8 : S8 := ⟨0, 0, 0, 0, 0, 0, 0, 0⟩
theorem zeroHash : ∀ W : World, (zeroValue 62).run Tryd.prog W = .ok (.agg (hashC zeroS8 zeroP 0 0)) W := fun _ => by kernel_rfl
/-- the first k bytes of the length -/
def tailTo (n k : Nat) : List UInt8 := (be64 n).take k ++ List.replicate (8 - k) 0
theorem tailTo_len (n : Nat) {k : Nat} (h : k ≤ 8) : (tailTo n k).length = 8 := by simp [tailTo, be64]; omega
theorem be64_len (n : Nat) : (be64 n).length = 8 := by simp [be64]
theorem tailTo_all (n : Nat) : tailTo n 8 = be64 n := by unfold tailTo; rw [List.take_of_length_le (by rw [be64_len]; omega), Nat.sub_self]; simp
theorem tailTo_set (n : Nat) {k : Nat} (h : k < 8) : (tailTo n k).set k (UInt8.ofNat (n / 2 ^ (56 - 8 * k))) = tailTo n (k + 1) := by
  rcases (show k = 0 ∨ k = 1 ∨ k = 2 ∨ k = 3 ∨ k = 4 ∨ k = 5 ∨ k = 6 ∨ k = 7 from by omega) with h | h | h | h | h | h | h | h <;> subst h <;> rfl
/-- the first k words' bytes -/
def sumTo (s : S8) (k : Nat) : List UInt8 := (bytesOf s).take (4 * k) ++ List.replicate (32 - 4 * k) 0
theorem sumTo_len (s : S8) {k : Nat} (h : k ≤ 8) : (sumTo s k).length = 32 := by simp [sumTo, bytesOf_len]; omega
theorem sumTo_all (s : S8) : sumTo s 8 = bytesOf s := by unfold sumTo; rw [List.take_of_length_le (by rw [bytesOf_len]; omega)]; simp
theorem sumTo_set (s : S8) {k : Nat} (h : k < 8) : ((((sumTo s k).set (4 * k) (wAt s.list k >>> 24).toUInt8).set (4 * k + 1) (wAt s.list k >>> 16).toUInt8).set (4 * k + 2) (wAt s.list k >>> 8).toUInt8).set (4 * k + 3) (wAt s.list k).toUInt8 = sumTo s (k + 1) := by
  rcases (show k = 0 ∨ k = 1 ∨ k = 2 ∨ k = 3 ∨ k = 4 ∨ k = 5 ∨ k = 6 ∨ k = 7 from by omega) with h | h | h | h | h | h | h | h <;> subst h <;> rfl
theorem byte_of_div (n m : Nat) : (n : Int) / (2 : Int) ^ m % 256 = vB (UInt8.ofNat (n / 2 ^ m)) := by
  unfold vB
  rw [show (2 : Int) ^ m = ((2 ^ m : Nat) : Int) from by simp, UInt8.toNat_ofNat']
  omega
theorem u32_to_u8 (x : UInt32) : IntKind.u8.wrap (v32 x) = vB x.toUInt8 := by
  rw [IntKind.wrap_u8]
  unfold v32 vB
  rw [UInt32.toNat_toUInt8]
  omega
theorem u32_to_u8' (x : UInt32) : v32 x % 256 = vB x.toUInt8 := by
  unfold v32 vB
  rw [UInt32.toNat_toUInt8]
  omega
theorem u32_shr24 (x : UInt32) : v32 x / (16777216 : Int) = v32 (x >>> 24) := u32_shr_ x 24 16777216 (by omega) rfl
theorem u32_shr16 (x : UInt32) : v32 x / (65536 : Int) = v32 (x >>> 16) := u32_shr_ x 16 65536 (by omega) rfl
theorem u32_shr8 (x : UInt32) : v32 x / (256 : Int) = v32 (x >>> 8) := u32_shr_ x 8 256 (by omega) rfl
attribute [local go_sem] u32_to_u8 u32_to_u8' u32_shr24 u32_shr16 u32_shr8
abbrev enc1 (b : UInt8) : List Value := [encB b]
theorem enc1_len (b : UInt8) : (enc1 b).length = 1 := rfl
theorem enc1_one (b : UInt8) : ∀ v ∈ enc1 b, v.oneCell' = true := fun v hv => by obtain rfl := List.mem_singleton.1 hv; rfl
theorem rd_of {w : World} {A : Option Addr} {l : List UInt8} (h : RdS enc1 1 w A l) : Rd encB w A l := fun i x hx => by
  obtain ⟨b, o, rfl, _, hc⟩ := h i x hx
  exact ⟨_, rfl, by rw [add_lit_]; simpa using hc 0 _ rfl⟩
theorem GSl.new1 {α : Type} (enc : α → List Value) (sz : Nat) (w : World) (e : TypeId) (x : α) (h : (enc x).length = sz) : GSl enc sz e (w.alloc (.cells (enc x).toArray e)) (some ⟨w.heap.size, 0, none⟩) 1 [x] := by
  refine .inr ⟨_, _, (enc x).toArray, rfl, Nat.le_refl _, by unfold maxLen; omega, heap_alloc_new w _, by simp; omega, fun i y hy j v hv => ?_⟩
  have hi := (List.getElem?_eq_some_iff.1 hy).1
  obtain rfl : i = 0 := by simpa using hi
  cases hy
  simpa using hv
theorem GSl.blk_lt {α : Type} {enc : α → List Value} {sz : Nat} {e : TypeId} {w : World} {A : Option Addr} {c : Nat} {l : List α} (h : GSl enc sz e w A c l) {g o : Nat} (hA : A = some ⟨g, o, none⟩) : g < w.heap.size := by
  rcases h with ⟨rfl, _⟩ | ⟨g', o', cs, rfl, _, _, hb, _⟩
  · cases hA
  · cases hA; exact Chg.lt hb
section
variable (ks : List UInt32) (hk : ks.length = 64) (s0 : S8) (H : Nat)
include hk
set_option maxRecDepth 20000 in
set_option maxHeartbeats 4000000 in
theorem sum_any (l : List UInt8) (w : World) (hH : HashS w H ks s0 l l.length) (hl : l.length < 1152921504606846976) (hT : Rd enc32 w (some ⟨3, 0, none⟩) ks) :
    Calls Tryd.prog 20 #[.pointer (some ⟨H, 0, none⟩)] w fun e w' => e = .returned (.agg (arr encB (digestL ks s0 l))) ∧ Below w.heap.size w w' := by
  have z1 := zeroA32
  have z2 := zeroHash
  have z3 := zeroA8
  obtain ⟨part, hpl, hb, hrest⟩ := hH
  obtain ⟨fs, hfs⟩ := hTy
  obtain ⟨s, hs⟩ : ∃ s, s = chainN ks (l.length / 64) s0 l := ⟨_, rfl⟩
  rw [← hs] at hb
  have Hs := Lib.hid hs
  have HPL := Lib.hid hpl
  have HB := Lib.hid hb
  have HREST := Lib.hid hrest
  have HT := Lib.hid hT
  have HFS := Lib.hid hfs
  clear hs hpl hb hrest hT hfs
  go_enter Tryd.func20, Tryd.ntmps20
  go_wp2_with (first
    | ((with_reducible refine wpList_load_blk rfl 62 (.tmp 12) rfl H 62 (hashC s part (l.length % 64) l.length) ?hb rfl HFS.out rfl (hSz s HPL.out _ _) ?_); case hb => exact HB.out.alloc _)
    | ((with_reducible refine wpList_store_blk rfl 62 (.tmp 3) (.tmp 13) rfl (w.heap.size + 1) 62 (hashC zeroS8 zeroP 0 0) (hashC s part (l.length % 64) l.length) ?hb rfl rfl (hSz s HPL.out _ _) ?hl (hashC_one _ _ _ _) ?_); (case hb => (have := Blk.new (w.alloc (.cells (arr encB zero32) 36)) 62 (hashC zeroS8 zeroP 0 0); rwa [World.size_alloc] at this)); (case hl => rw [hashC_size _ zeroP_len, hashC_size _ HPL.out]); intro w1 hb1 hg1 hs1; have HS1 := Lib.hid hs1; clear hs1; have h72 := (hb1.cell 72).trans (hashC_held _ HPL.out _ _); have h73 := (hb1.cell 73).trans (hashC_cnt _ HPL.out _ _)))
  obtain ⟨R, E, P0, hR, hE, hP⟩ : ∃ R E P0, R = w.heap.size ∧ E = w.heap.size + 1 ∧ P0 = w1.heap.size := ⟨_, _, _, rfl, rfl, rfl⟩
  have hP2 : w1.heap.size = w.heap.size + 2 := by rw [HS1.out]; simp
  have b0 : Blk (w1.alloc (.cells #[.int .u8 128] 5)) R 36 (arr encB zero32) := by
    rw [hR]
    exact (((Blk.new w 36 (arr encB zero32)).alloc _).grown hg1 (by intro e; injection e with e; omega)).alloc _
  have b1 : Blk (w1.alloc (.cells #[.int .u8 128] 5)) E 62 (hashC s part (l.length % 64) l.length) := by rw [hE]; exact hb1.alloc _
  have bG : GSl enc1 1 5 (w1.alloc (.cells #[.int .u8 128] 5)) (some ⟨P0, 0, none⟩) 1 [128] := by rw [hP]; exact GSl.new1 enc1 1 w1 5 128 rfl
  have bB : Below R w (w1.alloc (.cells #[.int .u8 128] 5)) := by
    rw [hR]
    exact ((((Below.refl _ w).alloc (Nat.le_refl _) _).alloc (by simp) _).grown hg1 (by simp; omega) (fun k e => by cases e; omega)).alloc (by omega) _
  have h01 : R < E := by omega
  have h12 : E < P0 := by omega
  have hP0 : P0 < (w1.alloc (.cells #[.int .u8 128] 5)).heap.size := by rw [World.size_alloc]; omega
  obtain ⟨hd, hhd⟩ : ∃ hd, hd = l.length % 64 := ⟨_, rfl⟩
  have hd64 : hd < 64 := by omega
  obtain ⟨Z, hZ⟩ : ∃ Z, Z = zerosOf l.length := ⟨_, rfl⟩
  have hZ64 : Z < 64 := by rw [hZ]; unfold zerosOf; omega
  have hZd : (hd + 1 + Z) % 64 = 56 := by rw [hZ, hhd]; unfold zerosOf; omega
  have hZm : ∀ j, j < Z → (hd + 1 + j) % 64 ≠ 56 := fun j hj => by omega
  rw [← hhd] at b1 h72
  have HRR := Lib.hid hR
  have HZ := Lib.hid hZ
  have HHD := Lib.hid hhd
  have HZD := Lib.hid hZd
  have HZM := Lib.hid hZm
  have hRw : w.heap.size ≤ R := by omega
  rw [← hP, ← hE, ← hR]
  clear hg1 hb1 h72 h73 HS1 hP2 hR hE hP hhd hZ hZd hZm z2
  obtain ⟨W1, hW1⟩ : ∃ W1, W1 = w1.alloc (.cells #[.int .u8 128] 5) := ⟨_, rfl⟩
  rw [← hW1] at b0 b1 bG bB hP0 ⊢
  clear hW1
  go_loopw [5] (fun t5 wr => ∃ (pad : List UInt8) (j : Nat) (A : Option Addr) (c : Nat), pad = 128 :: List.replicate j 0 ∧ j ≤ Z ∧ t5 = .slice A pad.length c ∧ GSl enc1 1 5 wr A c pad ∧ (∀ g i, slFp 1 A 0 c g i → P0 ≤ g) ∧ Blk wr R 36 (arr encB zero32) ∧ Blk wr E 62 (hashC s part hd l.length) ∧ Below R w wr ∧ P0 < wr.heap.size) (fun t5 _ => 70 - (match t5 with | .slice _ n _ => n | _ => 0))
  case atStart => exact ⟨[128], 0, some ⟨P0, 0, none⟩, 1, rfl, by omega, rfl, bG, (fun g i ⟨o, ho, _⟩ => by cases ho; exact Nat.le_refl _), b0, b1, bB, hP0⟩
  case round =>
    obtain ⟨pad, j, A, c, hpad, hj, rfl, dG, dF, d0, d1, dB, dP⟩ := hrel
    clear b0 b1 bG bB hP0
    have hpl : pad.length = j + 1 := by rw [hpad]; simp
    have h72 := (d1.cell 72).trans (hashC_held _ HPL.out _ _)
    have HPAD := Lib.hid hpad
    have HPLN := Lib.hid hpl
    have hple : pad.length ≤ 64 := by omega
    by_cases hjz : j < Z
    · have hm : ((((hd : Int) + (pad.length : Int)) % 64) != 56) = true := by
        rw [bne_iff_ne]
        have := HZM.out j hjz
        omega
      clear hpad hpl
      have gin : GSl enc1 1 5 (wr.alloc (.cells #[.int .u8 0] 5)) A c pad := dG.chg (Chg.alloc (fun k _ => wr.heap.size ≤ k) wr _) enc1_len fun g i hs hle => by
        obtain ⟨o, ho, _⟩ := hs
        have := dG.blk_lt ho
        omega
      have gnew : RdS enc1 1 (wr.alloc (.cells #[.int .u8 0] 5)) (some ⟨wr.heap.size, 0, none⟩) [(0 : UInt8)] := RdS.new1 enc1 1 wr 5 0
      have hl63 : pad.length + [(0 : UInt8)].length ≤ maxLen := by unfold maxLen; simp only [List.length_singleton]; omega
      have hlb : (pad.length + [(0 : UInt8)].length) * 1 ≤ 140737488355328 := by simp only [List.length_singleton]; omega
      go_wp2_with (at_builtin; (with_reducible refine wpList_appendG bTy (by decide) enc1_len enc1_one rfl (.tmp 25) (.tmp 26) rfl A c pad rfl gin (some ⟨wr.heap.size, 0, none⟩) 1 [0] rfl gnew hl63 hlb ?_); intro A' c' w4 h4 k4 q4)
      have kA : Chg (fun k _ => wr.heap.size ≤ k) wr (wr.alloc (.cells #[.int .u8 0] 5)) := Chg.alloc _ _ _
      have hsz : wr.heap.size ≤ w4.heap.size := Nat.le_trans kA.size k4.size
      go_roundw
      case rel =>
        refine ⟨pad ++ [0], j + 1, A', c', by rw [HPAD.out, List.cons_append, List.replicate_succ'], by omega, by rw [List.length_append]; rfl, h4, ?_, ?_, ?_, ?_, by omega⟩
        · intro g i hs
          rcases q4 with ⟨rfl, rfl⟩ | ⟨g', rfl, hg'⟩
          · exact dF g i hs
          · obtain ⟨o, ho, _⟩ := hs
            cases ho
            have := kA.size
            omega
        · exact k4.blk (d0.alloc _) fun i hs => by have := dF _ _ (slFp_zero hs); omega
        · exact k4.blk (d1.alloc _) fun i hs => by have := dF _ _ (slFp_zero hs); omega
        · exact (dB.trans (kA.below (by have := dB.size; have := HRR.out; omega) fun k i hk hle => by omega)).trans (k4.below (by have := kA.size; omega) fun k i hk hs => by have := dF _ _ (slFp_zero hs); omega)
      case measure =>
        show 70 - (pad.length + 1) < 70 - pad.length
        omega
    · obtain rfl : j = Z := by omega
      have hm : ((((hd : Int) + (pad.length : Int)) % 64) != 56) = false := by
        rw [bne_eq_false_iff_eq]
        have := HZD.out
        omega
      clear hpad hpl
      have HSH : HashS wr E ks s0 l l.length := ⟨part, HPL.out, by rw [← HHD.out, ← Hs.out]; exact d1, HREST.out⟩
      have hTw : Rd enc32 wr (some ⟨3, 0, none⟩) ks := HT.out.below (by rw [← HRR.out]; exact dB)
      have hE3 : E ≠ 3 := by
        obtain ⟨ad, e, hlt⟩ := HT.out.blk_lt (by intro e; rw [e] at hk; cases hk)
        cases e
        have : 3 < w.heap.size := hlt
        omega
      have hAE : ∀ ad, A = some ad → ad.block ≠ E := by
        intro ad e he
        rcases dG with ⟨_, h0, _⟩ | ⟨g, o, cs, e2, h1, _⟩
        · have := HPLN.out; rw [h0] at this; cases this
        · rw [e] at e2
          cases e2
          have := dF g o ⟨o, e, by omega, by have := HPLN.out; omega⟩
          have he' : g = E := he
          omega
      have hcm : c ≤ 9223372036854775807 := by
        rcases dG with ⟨_, _, rfl⟩ | ⟨g, o, cs, _, _, hm, _⟩
        · omega
        · simpa only [maxLen] using hm
      have W1 := Lib.hid (write_any ks hk s0 E l pad l.length A c wr HSH (rd_of dG.rds) (fun _ => hAE) dG.le hcm (by omega) hTw hE3)
      have HE3 := Lib.hid hE3
      have HTW := Lib.hid hTw
      clear HSH hTw hE3 hAE hcm
      go_wp2_with (first | (go_at_call 16; (with_reducible refine W1.out.mono ?_); rintro e w2 ⟨rfl, hS2, k2⟩))
      obtain ⟨T, hTT⟩ : ∃ T, T = w2.heap.size := ⟨_, rfl⟩
      have k2s := k2.size
      obtain ⟨n8, hn8⟩ : ∃ n8, n8 = 8 * l.length := ⟨_, rfl⟩
      rw [show ((l.length : Int) * 8) = (n8 : Int) from by omega]
      have kA2 : Chg (fun k _ => w2.heap.size ≤ k) w2 (w2.alloc (.cells (arr encB zeroT) 64)) := Chg.alloc _ _ _
      have f0 : Blk (w2.alloc (.cells (arr encB zeroT) 64)) R 36 (arr encB zero32) := (k2.blk d0 fun _ => by omega).alloc _
      have fT : Blk (w2.alloc (.cells (arr encB zeroT) 64)) T 64 (arr encB (tailTo n8 0)) := by rw [hTT]; exact Blk.new w2 _ _
      have fE : HashS (w2.alloc (.cells (arr encB zeroT) 64)) E ks s0 (l ++ pad) (l.length + pad.length) := by
        obtain ⟨p2, q1, q2, q3⟩ := hS2
        exact ⟨p2, q1, q2.alloc _, q3⟩
      have fB : Below R w (w2.alloc (.cells (arr encB zeroT) 64)) := (dB.trans (k2.below (by have := dB.size; have := HRR.out; omega) fun k i hk e => by omega)).alloc (by omega) _
      have fT3 : E < T := by omega
      have HN8 := Lib.hid hn8
      rw [← hTT]
      clear hn8 hTT hS2 k2 kA2 d0 d1 dG dF dB W1 h72 hm
      go_loopw [30] (fun t30 wr => ∃ k : Nat, k ≤ 8 ∧ t30 = .int .i64 k ∧ Blk wr R 36 (arr encB zero32) ∧ Blk wr T 64 (arr encB (tailTo n8 k)) ∧ HashS wr E ks s0 (l ++ pad) (l.length + pad.length) ∧ Below R w wr ∧ P0 < wr.heap.size) (fun t30 _ => 8 - (intOf t30).toNat)
      case atStart => exact ⟨0, by omega, rfl, f0, fT, fE, fB, by rw [World.size_alloc]; omega⟩
      case round =>
        obtain ⟨k, hk8, rfl, g0, gT, gE, gB, gP⟩ := hrel
        clear f0 fT fE fB
        have GE := Lib.hid gE
        clear gE
        by_cases hlt : k < 8
        · obtain ⟨z, hz⟩ : ∃ x, (tailTo n8 k)[k]? = some x := ⟨_, List.getElem?_eq_getElem (by rw [tailTo_len n8 hk8]; exact hlt)⟩
          have xz : wr.cell? ⟨T, k, none⟩ = some (encB z) := (gT.cell _).trans (arr_at hz)
          have fz := gT.frozen k
          have w8 : IntKind.i64.wrap (8 * (k : Int)) = 8 * (k : Int) := i64_in_ _ (by omega)
          have w56 : IntKind.i64.wrap (56 - 8 * (k : Int)) = 56 - 8 * (k : Int) := i64_in_ _ (by omega)
          have i56 : (0 : Int) ≤ 56 - 8 * (k : Int) ∧ 56 - 8 * (k : Int) < 64 := by omega
          have n56 : (56 - 8 * (k : Int)).toNat = 56 - 8 * k := by omega
          have i8 : (0 : Int) ≤ (k : Int) ∧ (k : Int) < 8 := by omega
          clear hz
          go_wp2
          go_roundw
          case rel =>
            rw [byte_of_div n8 (56 - 8 * k)]
            have h2 := gT.set_ k (encB (UInt8.ofNat (n8 / 2 ^ (56 - 8 * k))))
            rw [arr_set, tailTo_set n8 hlt] at h2
            refine ⟨k + 1, by omega, by go_num, g0.far (by show R ≠ T; omega) _, h2, ?_, gB.setCell (by show R ≤ T; omega) _, by simpa [World.setCell] using gP⟩
            obtain ⟨p2, q1, q2, q3⟩ := GE.out
            exact ⟨p2, q1, q2.far (by show E ≠ T; omega) _, q3⟩
          case measure => simp [intOf]; omega
        · obtain rfl : k = 8 := by omega
          rw [show ((8 : Nat) : Int) = 8 from rfl]
          rw [tailTo_all] at gT
          have hTw2 : Rd enc32 wr (some ⟨3, 0, none⟩) ks := HT.out.below (by rw [← HRR.out]; exact gB)
          have hrT : Rd encB wr (some ⟨T, 0, none⟩) (be64 n8) := fun i x hx => ⟨_, rfl, by rw [add_lit_, Nat.zero_add]; exact (gT.cell _).trans (arr_at hx)⟩
          have W2 := write_any ks hk s0 E (l ++ pad) (be64 n8) (l.length + pad.length) (some ⟨T, 0, none⟩) 8 wr GE.out hrT (fun _ ad e => by cases e; show T ≠ E; omega) (by rw [be64_len]; exact Nat.le_refl _) (by omega) (by rw [be64_len]; omega) hTw2 HE3.out
          rw [be64_len] at W2
          have HW2 := Lib.hid W2
          clear hTw2 hrT W2
          go_wp2_with fail
          refine HW2.out.mono ?_
          rintro e w3 ⟨rfl, hS3, k3⟩
          obtain ⟨S, hS⟩ : ∃ S, S = w3.heap.size := ⟨_, rfl⟩
          have k3s := k3.size
          have hpadL : (l ++ pad) ++ be64 n8 = paddedL l := by rw [HPAD.out, HN8.out, HZ.out, paddedL, List.append_assoc l [128]]; rfl
          obtain ⟨pL, hpL⟩ : ∃ pL, pL = paddedL l := ⟨_, rfl⟩
          rw [hpadL, ← hpL] at hS3
          obtain ⟨p3, q1, q2, _⟩ := hS3
          obtain ⟨s3, hs3⟩ : ∃ s3, s3 = chainN ks (pL.length / 64) s0 pL := ⟨_, rfl⟩
          rw [← hs3] at q2
          have hfin : digestL ks s0 l = bytesOf s3 := by rw [hs3, hpL]; rfl
          have HFIN := Lib.hid hfin
          have r0 : Blk (w3.alloc (.cells (arr encB zero32) 36)) R 36 (arr encB zero32) := (k3.blk g0 fun _ => by omega).alloc _
          have rS : Blk (w3.alloc (.cells (arr encB zero32) 36)) S 36 (arr encB (sumTo s3 0)) := by rw [hS]; exact Blk.new w3 _ _
          have rB : Below R w (w3.alloc (.cells (arr encB zero32) 36)) := (gB.trans (k3.below (by have := gB.size; have := HRR.out; omega) fun k i hk e => by omega)).alloc (by omega) _
          have hRS : R < S := by omega
          have hmid : (w3.alloc (.cells (arr encB zero32) 36)).rangeAt E 0 (s3.list.map enc32) := fun j v hv => ((q2.alloc _).cell _).trans (hashL_words s3 p3 _ _ hv)
          have HMID := Lib.hid hmid
          have HSS := Lib.hid hS
          clear hS hpadL hpL q1 q2 hs3 hfin hmid g0 gT gB k3 HW2
          go_wp2_with (first
            | (refine wpList_load_mid rfl 58 (.tmp 44) rfl E 0 rfl (s3.list.map enc32) _ (by exact HMID.out) sTy rfl sSz0 ?_))
          rw [← HSS.out]
          go_loopw [46] (fun t46 wr => ∃ k : Nat, k ≤ 8 ∧ t46 = .int .i64 k ∧ Blk wr R 36 (arr encB zero32) ∧ Blk wr S 36 (arr encB (sumTo s3 k)) ∧ Below R w wr) (fun t46 _ => 8 - (intOf t46).toNat)
          case atStart => exact ⟨0, by omega, rfl, r0, rS, rB⟩
          case round =>
            obtain ⟨k, hk8, rfl, g0, gS, gB⟩ := hrel
            clear r0 rS rB
            by_cases hlt : k < 8
            · have hix : ∀ W : World, (Instr.index 58 (.agg (s3.list.map enc32).toArray) (.int .i64 (k : Int))).run Tryd.prog W = .ok (enc32 (wAt s3.list k)) W := run_index_arr sTy Tryd.underlying46 (by kernel_rfl) (S8.list_len s3) (list_get s3 hlt)
              have hln : (sumTo s3 k).length = 32 := sumTo_len s3 hk8
              have cell : ∀ j, j < 32 → ∃ z, wr.cell? ⟨S, j, none⟩ = some (encB z) := fun j hj => ⟨_, (gS.cell _).trans (arr_at (List.getElem?_eq_getElem (by omega)))⟩
              obtain ⟨z0, c0⟩ := cell (4 * k) (by omega)
              obtain ⟨z1', c1⟩ := cell (4 * k + 1) (by omega)
              obtain ⟨z2, c2⟩ := cell (4 * k + 2) (by omega)
              obtain ⟨z3', c3⟩ := cell (4 * k + 3) (by omega)
              have f0 := gS.frozen (4 * k)
              have f1 := gS.frozen (4 * k + 1)
              have f2 := gS.frozen (4 * k + 2)
              have f3 := gS.frozen (4 * k + 3)
              have w4 : IntKind.i64.wrap (4 * (k : Int)) = 4 * (k : Int) := i64_in_ _ (by omega)
              have i0 : (0 : Int) ≤ 4 * (k : Int) ∧ 4 * (k : Int) < 32 := by omega
              have n0 : (4 * (k : Int)).toNat = 4 * k := by omega
              have hset := sumTo_set s3 hlt
              have HSET := Lib.hid hset
              clear hset cell hln
              generalize wAt s3.list k = x at *
              go_wp2
              go_roundw
              case rel =>
                have h2 := (((gS.set_ (4 * k) (encB (x >>> 24).toUInt8)).set_ (4 * k + 1) (encB (x >>> 16).toUInt8)).set_ (4 * k + 2) (encB (x >>> 8).toUInt8)).set_ (4 * k + 3) (encB x.toUInt8)
                rw [arr_set, arr_set, arr_set, arr_set, HSET.out] at h2
                exact ⟨k + 1, by omega, by go_num, (((g0.far (by show R ≠ S; omega) _).far (by show R ≠ S; omega) _).far (by show R ≠ S; omega) _).far (by show R ≠ S; omega) _, h2, (((gB.setCell (by show R ≤ S; omega) _).setCell (by show R ≤ S; omega) _).setCell (by show R ≤ S; omega) _).setCell (by show R ≤ S; omega) _⟩
              case measure => simp [intOf]; omega
            · obtain rfl : k = 8 := by omega
              rw [sumTo_all, ← HFIN.out] at gS
              have hdl := digestL_len ks s0 l
              have HDL := Lib.hid hdl
              clear hdl
              go_wp2_with (first
                | ((with_reducible refine wpList_load_blk rfl 36 (.tmp 8) rfl S 36 (arr encB (digestL ks s0 l)) ?hb rfl arrTy rfl (arrSz HDL.out) ?_); case hb => exact gS)
                | ((with_reducible refine wpList_store_blk rfl 36 (.tmp 2) (.tmp 77) rfl R 36 (arr encB zero32) (arr encB (digestL ks s0 l)) ?hb rfl rfl (arrSz HDL.out) ?hl (arr_one encB_one _) ?_); (case hb => exact g0); (case hl => rw [arr_size, arr_size, zero32_len, HDL.out]); intro w9 hb9 hg9 hs9))
              have h9 := below_only gB hg9 (show R ≤ wr.heap.size from by have := gB.size; have := HRR.out; omega) (Nat.le_refl _)
              rw [HRR.out] at h9
              refine bodyPost_cell rfl R 36 _ (0, 0) _ rfl hb9 arrTy rfl (arrSz HDL.out) rfl ⟨rfl, h9⟩
set_option maxRecDepth 20000 in
set_option maxHeartbeats 1000000 in
theorem sum256_any (A : Option Addr) (c : Nat) (l : List UInt8) (w : World) (hl : l.length ≤ c) (hc : c ≤ 9223372036854775807) (hl2 : l.length < 1152921504606846976) (hp : Rd encB w A l) (hT : Rd enc32 w (some ⟨3, 0, none⟩) ks) (hS : Rd enc32 w (some ⟨0, 0, none⟩) s0.list) :
    Calls Tryd.prog 25 #[.slice A l.length c] w fun e w' => e = .returned (.agg (arr encB (digestL ks s0 l))) ∧ Below w.heap.size w w' := by
  have z1 := zeroA32
  have HT := Lib.hid hT
  have HS := Lib.hid hS
  have HP := Lib.hid hp
  have h3 : 3 < w.heap.size := by
    obtain ⟨ad, e, hlt⟩ := hT.blk_lt (by intro e; rw [e] at hk; cases hk)
    cases e
    exact hlt
  clear hT hS hp
  have B0 : Below w.heap.size w (w.alloc (.cells (arr encB zero32) 36)) := (Below.refl _ w).alloc (Nat.le_refl _) _
  have b0 := Blk.new w 36 (arr encB zero32)
  go_enter Tryd.func25, Tryd.ntmps25
  go_wp2_with fail
  refine (new_any ks s0 _ (HS.out.below B0)).mono ?_
  rintro e w1 ⟨rfl, hH1, hB1⟩
  obtain ⟨E, hE⟩ : ∃ E, E = (w.alloc (.cells (arr encB zero32) 36)).heap.size := ⟨_, rfl⟩
  rw [← hE] at hH1 hB1 ⊢
  have hE1 : E = w.heap.size + 1 := by rw [hE, World.size_alloc]
  have hB01 : Below w.heap.size w w1 := B0.trans (hB1.mono (by omega))
  have b1 := b0.below hB1 (by omega)
  have HE := Lib.hid hE1
  have hEs : E ≤ w1.heap.size := by have := hB1.size; rw [World.size_alloc] at this; omega
  have W1 := Lib.hid (write_any ks hk s0 E [] l 0 A c w1 hH1 (HP.out.below hB01) (fun h0 ad e he => by
    obtain ⟨ad', e', hlt⟩ := HP.out.blk_lt h0
    rw [e] at e'; cases e'
    omega) hl hc (by omega) (HT.out.below hB01) (by omega))
  clear hE hE1 hH1 B0 b0
  go_wp2_with fail
  refine W1.out.mono ?_
  rintro e w2 ⟨rfl, hH2, k2⟩
  rw [List.nil_append, Nat.zero_add] at hH2
  have hB2 : Below w.heap.size w w2 := hB01.trans (k2.below (by have := hB01.size; omega) fun k i hk e => by have := HE.out; omega)
  have b2 := k2.blk b1 fun _ => by have := HE.out; omega
  have S1 := Lib.hid (sum_any ks hk s0 E l w2 hH2 hl2 (HT.out.below hB2))
  clear W1 hB1 hH2 k2 b1
  go_wp2_with fail
  refine S1.out.mono ?_
  rintro e w3 ⟨rfl, hB3⟩
  have b3 := b2.below hB3 (by have := hB2.size; have := b2.lt; omega)
  have hB4 := hB2.trans (hB3.mono hB2.size)
  have hdl := digestL_len ks s0 l
  have HDL := Lib.hid hdl
  clear hdl S1 b2 hB3
  go_wp2_with (first
    | ((with_reducible refine wpList_store_blk rfl 36 (.tmp 2) (.tmp 9) rfl w.heap.size 36 (arr encB zero32) (arr encB (digestL ks s0 l)) ?hb rfl rfl (arrSz HDL.out) ?hl (arr_one encB_one _) ?_); (case hb => exact b3); (case hl => rw [arr_size, arr_size, zero32_len, HDL.out]); intro w9 hb9 hg9 hs9))
  refine bodyPost_cell rfl w.heap.size 36 _ (0, 0) _ rfl hb9 arrTy rfl (arrSz HDL.out) rfl ⟨rfl, below_only hB4 hg9 hB4.size (Nat.le_refl _)⟩
end
end Go.Proofs.YtepikbmlhejobaaDoor
