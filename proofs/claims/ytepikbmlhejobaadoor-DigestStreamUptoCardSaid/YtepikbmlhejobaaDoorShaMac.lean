/- SHA-256: the keyed digest, by contract. -/
import Derived.Test.YtepikbmlhejobaaDoorShaSum
namespace Go.Proofs.YtepikbmlhejobaaDoor
open Go.RowKit
set_option linter.unusedSimpArgs false

/-- the key as 64 bytes -/
def keyL (ks : List UInt32) (s0 : S8) (key : List UInt8) : List UInt8 := let k := if 64 < key.length then digestL ks s0 key else key; k ++ List.replicate (64 - k.length) 0
theorem keyL_len (ks : List UInt32) (s0 : S8) (key : List UInt8) : (keyL ks s0 key).length = 64 := by
  unfold keyL
  split
  · simp [digestL_len]
  · simp; omega
def macL (ks : List UInt32) (s0 : S8) (key msg : List UInt8) : List UInt8 := digestL ks s0 ((keyL ks s0 key).map (· ^^^ 92) ++ digestL ks s0 ((keyL ks s0 key).map (· ^^^ 54) ++ msg))
theorem zeroCh : ∀ W : World, (zeroValue 60).run Tryd.prog W = .ok (.agg (arr encB zeroP)) W := fun _ => by kernel_rfl
theorem wpList_copyC {P : Program} {w : World} {ops : Array Oper} {rest : List Oper} {o : Oper} {a : Act} {Q : Exit → Act → World → Prop} (hgd : o.guard = none) (d s : Operand) (dT sT : TypeId)
    (ho : o.op = .call { callee := .builtin .copy, args := #[d, s], argTypes := #[dT, sT] }) (elem : TypeId) (hu : P.underlying dT = some (.slice elem)) (hsz : (P.info? elem).map (·.size) = some 1)
    (g off dLen dCap : Nat) (sp : Option Addr) (sLen sCap : Nat) (hd : a.eval d = .slice (some ⟨g, off, none⟩) dLen dCap) (hs : a.eval s = .slice sp sLen sCap)
    (L : List Value) (t : TypeId) (hg : Blk w g t L.toArray) (cs : List Value) (hn : cs.length = Nat.min sLen dLen)
    (hpos : 0 < cs.length → ∃ ad, sp = some ad ∧ ∀ j v, cs[j]? = some v → w.cell? (ad.add j) = some v) (hfit : off + cs.length ≤ L.length) (h1 : ∀ v ∈ cs, v.oneCell' = true)
    (h : ∀ w', Blk w' g t (splice L off cs).toArray → w.grownBy w' (some g) → w'.heap.size = w.heap.size → wpList P ops Q rest (a.put o.dst (goInt cs.length)) w') : wpList P ops Q (o :: rest) a w := by
  by_cases h0 : cs.length = 0
  · obtain rfl : cs = [] := List.eq_nil_of_length_eq_zero h0
    exact wpList_copy_nothing hgd d s dT sT ho elem hu hsz _ sp dLen dCap sLen sCap hd hs (by simpa using hn.symm) (h w (by simpa [splice] using hg) (only_refl w _) rfl)
  · obtain ⟨ad, rfl, hsrc⟩ := hpos (by omega)
    exact wpList_copyB hgd d s dT sT ho elem hu hsz g off dLen dCap ad sLen sCap hd hs L t hg cs hn hsrc hfit h1 h
theorem splice_zero {k : List UInt8} : splice (zeroP.map encB) 0 (k.map encB) = (k ++ List.replicate (64 - k.length) 0).map encB := by
  unfold splice zeroP
  rw [List.take_zero, List.nil_append, List.length_map, Nat.zero_add, List.map_append, ← List.map_drop, List.drop_replicate]
/-- the first k outer bytes, the others zero -/
def outTo (kp : List UInt8) (k : Nat) : List UInt8 := (kp.take k).map (· ^^^ 92) ++ List.replicate (64 - k) 0
theorem outTo_set {kp : List UInt8} (hl : kp.length = 64) {k : Nat} {x : UInt8} (hx : kp[k]? = some x) : (outTo kp k).set k (x ^^^ 92) = outTo kp (k + 1) := by
  have hk := (List.getElem?_eq_some_iff.1 hx).1
  have hl2 : ((kp.take k).map (· ^^^ (92 : UInt8))).length = k := by simp; omega
  unfold outTo
  rw [List.set_append_right _ _ (by omega), hl2, Nat.sub_self, show 64 - k = (64 - (k + 1)) + 1 from by omega, List.replicate_succ, List.set_cons_zero, take_snoc_ hx, List.map_append, List.append_assoc]
  rfl
theorem u8_xor92 (x : UInt8) : bits .xor .u8 (vB x) 92 = vB (x ^^^ 92) := u8_xor_ x 92
theorem u8_xor54 (x : UInt8) : bits .xor .u8 (vB x) 54 = vB (x ^^^ 54) := u8_xor_ x 54
attribute [local go_sem] u8_xor92 u8_xor54
theorem HashS.lt {w : World} {H : Nat} {ks : List UInt32} {s0 : S8} {l : List UInt8} {cnt : Nat} (h : HashS w H ks s0 l cnt) : H < w.heap.size := by obtain ⟨_, _, h, _⟩ := h; exact h.lt
theorem HashS.below {w w' : World} {H B : Nat} {ks : List UInt32} {s0 : S8} {l : List UInt8} {cnt : Nat} (h : HashS w H ks s0 l cnt) (hB : Below B w w') (hH : H < B) : HashS w' H ks s0 l cnt := by
  obtain ⟨p, h1, h2, h3⟩ := h
  exact ⟨p, h1, h2.below hB hH, h3⟩
theorem HashS.chg {w w' : World} {F : Nat → Nat → Prop} {H : Nat} {ks : List UInt32} {s0 : S8} {l : List UInt8} {cnt : Nat} (h : HashS w H ks s0 l cnt) (hc : Chg F w w') (hn : ∀ i, ¬ F H i) : HashS w' H ks s0 l cnt := by
  obtain ⟨p, h1, h2, h3⟩ := h
  exact ⟨p, h1, hc.blk h2 hn, h3⟩
theorem rd_blk {w : World} {g t : Nat} {l : List UInt8} (h : Blk w g t (arr encB l)) : Rd encB w (some ⟨g, 0, none⟩) l := fun i x hx => ⟨_, rfl, by rw [add_lit_, Nat.zero_add]; exact (h.cell _).trans (arr_at hx)⟩
section
variable (ks : List UInt32) (hk : ks.length = 64) (s0 : S8)
include hk
set_option maxRecDepth 20000 in
set_option maxHeartbeats 4000000 in
theorem mac_any (A B : Option Addr) (c d : Nat) (key msg : List UInt8) (w : World) (hl : key.length ≤ c) (hc : c ≤ 9223372036854775807) (hl2 : key.length < 576460752303423488) (hp : Rd encB w A key)
    (hm : msg.length ≤ d) (hd : d ≤ 9223372036854775807) (hm2 : msg.length < 576460752303423488) (hq : Rd encB w B msg) (hT : Rd enc32 w (some ⟨3, 0, none⟩) ks) (hS : Rd enc32 w (some ⟨0, 0, none⟩) s0.list) :
    Calls Tryd.prog 28 #[.slice A key.length c, .slice B msg.length d] w fun e w' => e = .returned (.agg (arr encB (macL ks s0 key msg))) ∧ Below w.heap.size w w' := by
  have z1 := zeroA32
  have z2 := zeroCh
  have h3 : 3 < w.heap.size := by
    obtain ⟨ad, e, hlt⟩ := hT.blk_lt (by intro e; rw [e] at hk; cases hk)
    cases e
    exact hlt
  have HT := Lib.hid hT
  have HS := Lib.hid hS
  have HP := Lib.hid hp
  have HQ := Lib.hid hq
  clear hT hS hp hq
  obtain ⟨W, R, I, O, hW, hR, hI, hO, hRI, hIO, hOW, b0, b1, b2, bB⟩ := three_blks w (arr encB zero32) (arr encB zeroP) (arr encB zeroP) 36 60 60
  have HW := Lib.hid hW
  have HR := Lib.hid hR
  have HI := Lib.hid hI
  have HO := Lib.hid hO
  have hRw : w.heap.size ≤ R := by omega
  clear hW hR hI hO
  obtain ⟨kp, hkp⟩ : ∃ kp, kp = keyL ks s0 key := ⟨_, rfl⟩
  have HKP := Lib.hid hkp
  have hkpl : kp.length = 64 := by rw [hkp]; exact keyL_len ks s0 key
  have HKL := Lib.hid hkpl
  clear hkp hkpl
  go_enter Tryd.func28, Tryd.ntmps28
  go_upto_if 13 with fail
  rw [← HW.out, ← HO.out, ← HI.out, ← HR.out]
  go_cut [] (fun wx => Blk wx R 36 (arr encB zero32) ∧ Blk wx I 60 (arr encB kp) ∧ Blk wx O 60 (arr encB zeroP) ∧ Below R w wx ∧ O < wx.heap.size)
  case first =>
    by_cases hlong : 64 < key.length
    · have hkp2 : kp = digestL ks s0 key ++ List.replicate (64 - (digestL ks s0 key).length) 0 := by rw [HKP.out, keyL, if_pos hlong]
      have HK2 := Lib.hid hkp2
      have S1 := Lib.hid (sum256_any ks hk s0 A c key W hl hc (by omega) (HP.out.below bB) (HT.out.below bB) (HS.out.below bB))
      have hl64 : (64 : Int) < (key.length : Int) := by omega
      have hdl := digestL_len ks s0 key
      have HDL := Lib.hid hdl
      clear hkp2 hlong hdl
      go_wp2_with (first
        | (go_at_call 25; (with_reducible refine S1.out.mono ?_); rintro e w1 ⟨rfl, hB1⟩)
        | ((with_reducible refine wpList_store_blk rfl 36 (.tmp 7) (.tmp 15) rfl w1.heap.size 36 (arr encB zero32) (arr encB (digestL ks s0 key)) ?hb rfl rfl (arrSz HDL.out) ?hl (arr_one encB_one _) ?_); (case hb => exact Blk.new w1 _ _); (case hl => rw [arr_size, arr_size, zero32_len, HDL.out]); intro w2 hb2 hg2 hs2; have HS2 := Lib.hid hs2; clear hs2))
      have hIw : I < w1.heap.size := by have := hB1.size; omega
      have e1 : Blk w2 I 60 (arr encB zeroP) := ((b1.below hB1 (by omega)).alloc _).grown hg2 (by intro e; injection e with e; omega)
      have e0 : Blk w2 R 36 (arr encB zero32) := ((b0.below hB1 (by omega)).alloc _).grown hg2 (by intro e; injection e with e; omega)
      have e2 : Blk w2 O 60 (arr encB zeroP) := ((b2.below hB1 (by omega)).alloc _).grown hg2 (by intro e; injection e with e; have := hB1.size; omega)
      have hWR : w.heap.size ≤ R := hRw
      have eB : Below R w w2 := by
        rw [HR.out]
        exact ((bB.trans (hB1.mono bB.size)).alloc (by have := bB.size; have := hB1.size; omega) _).grown hg2 (by rw [World.size_alloc]; have := bB.size; have := hB1.size; omega) (fun k e => by cases e; have := bB.size; have := hB1.size; omega)
      have e3 : w2.heap.size = w1.heap.size + 1 := by rw [HS2.out]; simp
      have hOw : O < w2.heap.size := by have := hB1.size; omega
      have E3 := Lib.hid e3
      have hrd : ∀ j v, ((digestL ks s0 key).map encB)[j]? = some v → w2.cell? ((⟨w1.heap.size, 0, none⟩ : Addr).add j) = some v := fun j v hv => by
        rw [add_lit_, Nat.zero_add, hb2.cell]
        simpa [arr] using hv
      have HRD := Lib.hid hrd
      clear hrd e3 hg2 HS2
      go_still_tail 2, (by kernel_rfl)
      refine wpList_copyC rfl (.tmp 16) (.tmp 17) 27 27 rfl 5 Tryd.underlying27 u8Sz I 0 64 64 (some ⟨w1.heap.size, 0, none⟩) 32 32 rfl rfl (zeroP.map encB) 60 (by exact e1) ((digestL ks s0 key).map encB) (by rw [List.length_map, HDL.out]; rfl) (fun _ => ⟨_, rfl, by exact HRD.out⟩) (by rw [List.length_map, List.length_map, HDL.out, zeroP_len]; omega) (fun v hv => by obtain ⟨x, _, rfl⟩ := List.mem_map.1 hv; rfl) ?_
      intro w4 hb4 hg4 hs4
      have hs4' : w4.heap.size = w2.heap.size := hs4
      rw [splice_zero, ← HK2.out] at hb4
      have HB4 := Lib.hid hb4
      have HG4 := Lib.hid hg4
      clear hb4 hg4 hs4
      go_wp2
      go_meet
      exact ⟨(e0.drewN 1).grown HG4.out (by intro e; injection e with e; omega), HB4.out, (e2.drewN 1).grown HG4.out (by intro e; injection e with e; omega), below_only (below_drewN eB 1) HG4.out (by show R ≤ w2.heap.size; omega) (by omega), by omega⟩
    · have hkp2 : kp = key ++ List.replicate (64 - key.length) 0 := by rw [HKP.out, keyL, if_neg hlong]
      have HK2 := Lib.hid hkp2
      have hl64 : ¬ (64 : Int) < (key.length : Int) := by omega
      have hl65 : key.length ≤ 64 := by omega
      have hsrc : 0 < (key.map encB).length → ∃ ad, A = some ad ∧ ∀ j v, (key.map encB)[j]? = some v → W.cell? (ad.add j) = some v := fun h0 => by
        obtain ⟨ad, x, e, _, _⟩ := (HP.out.below bB).at_ (k := 0) (by simpa using h0)
        refine ⟨ad, e, fun j v hv => ?_⟩
        rw [List.getElem?_map] at hv
        obtain ⟨y, hy, rfl⟩ := Option.map_eq_some_iff.1 hv
        obtain ⟨ad', e', hc⟩ := (HP.out.below bB) j y hy
        rw [e] at e'; cases e'
        exact hc
      have HSRC := Lib.hid hsrc
      clear hkp2 hlong hsrc
      go_wp2_with (first
        | ((refine wpList_copyC rfl (.tmp 19) (.tmp 20) 27 27 rfl 5 Tryd.underlying27 u8Sz I 0 64 64 A key.length c rfl rfl (zeroP.map encB) 60 (by exact b1) (key.map encB) ?hn HSRC.out ?hfit ?h1 ?_); (case hn => rw [List.length_map]; exact (Nat.min_eq_left hl65).symm); (case hfit => rw [List.length_map, List.length_map, zeroP_len]; omega); (case h1 => intro v hv; obtain ⟨x, _, rfl⟩ := List.mem_map.1 hv; rfl); intro w4 hb4 hg4 hs4; rw [splice_zero, ← HK2.out] at hb4; have HB4 := Lib.hid hb4; have HG4 := Lib.hid hg4; have HS4 := Lib.hid hs4; clear hb4 hg4 hs4))
      go_meet
      have hRb : Below R w W := by rw [HR.out]; exact bB
      exact ⟨b0.grown HG4.out (by intro e; injection e with e; omega), HB4.out, b2.grown HG4.out (by intro e; injection e with e; omega), below_only hRb HG4.out (by omega) (by omega), by rw [HS4.out]; exact hOW⟩
  case rest =>
    obtain ⟨d0, d1, d2, dB, dO⟩ := hcut
    go_wp2_with fail
    go_loopw [22] (fun t22 wr => ∃ k : Nat, k ≤ 64 ∧ t22 = .int .i64 k ∧ Blk wr R 36 (arr encB zero32) ∧ Blk wr I 60 (arr encB ((kp.take k).map (· ^^^ 54) ++ kp.drop k)) ∧ Blk wr O 60 (arr encB (outTo kp k)) ∧ Below R w wr ∧ O < wr.heap.size) (fun t22 _ => 64 - (intOf t22).toNat)
    case atStart => exact ⟨0, by omega, rfl, d0, by simpa using d1, d2, dB, dO⟩
    case round =>
      obtain ⟨k, hk64, rfl, e0, e1, e2, eB, eO⟩ := hrel
      clear d0 d1 d2 dB dO b0 b1 b2 bB
      by_cases hlt : k < 64
      · obtain ⟨x, hx⟩ : ∃ x, kp[k]? = some x := ⟨_, List.getElem?_eq_getElem (by rw [HKL.out]; exact hlt)⟩
        have hkk : ((kp.take k).map (· ^^^ (54 : UInt8)) ++ kp.drop k)[k]? = some x := by
          rw [List.getElem?_append_right (by simp; omega)]
          rw [show k - ((kp.take k).map (· ^^^ (54 : UInt8))).length = 0 from by simp; rw [HKL.out]; omega]
          rw [List.getElem?_drop, Nat.add_zero]
          exact hx
        have xi : wr.cell? ⟨I, k, none⟩ = some (encB x) := (e1.cell _).trans (arr_at hkk)
        have fi := e1.frozen k
        obtain ⟨z, hz⟩ : ∃ x, (outTo kp k)[k]? = some x := ⟨_, List.getElem?_eq_getElem (by simp [outTo]; rw [HKL.out]; omega)⟩
        have xo : wr.cell? ⟨O, k, none⟩ = some (encB z) := (e2.cell _).trans (arr_at hz)
        have fo := e2.frozen k
        have i0 : (0 : Int) ≤ (k : Int) ∧ (k : Int) < 64 := by omega
        have hne : O ≠ I := by omega
        have HX := Lib.hid hx
        have HKK := Lib.hid hkk
        clear hx hkk hz
        go_wp2
        go_roundw
        case rel =>
          have h1 := (e1.far (p := ⟨O, k, none⟩) (by show I ≠ O; omega) (encB (x ^^^ 92))).set_ k (encB (x ^^^ 54))
          rw [arr_set, set_take_drop (f := fun y : UInt8 => y ^^^ 54) HKK.out] at h1
          have h2 := (e2.set_ k (encB (x ^^^ 92))).far (p := ⟨I, k, none⟩) (by show O ≠ I; omega) (encB (x ^^^ 54))
          rw [arr_set, outTo_set HKL.out HX.out] at h2
          exact ⟨k + 1, by omega, by go_num, (e0.far (by show R ≠ O; omega) _).far (by show R ≠ I; omega) _, h1, h2, (eB.setCell (by show R ≤ O; omega) _).setCell (by show R ≤ I; omega) _, by simpa [World.setCell] using eO⟩
        case measure => simp [intOf]; omega
      · obtain rfl : k = 64 := by omega
        rw [show ((64 : Nat) : Int) = 64 from rfl]
        have hin : (kp.take 64).map (· ^^^ (54 : UInt8)) ++ kp.drop 64 = kp.map (· ^^^ 54) := by rw [List.take_of_length_le (by rw [HKL.out]; omega), List.drop_of_length_le (by rw [HKL.out]; omega), List.append_nil]
        have hout : outTo kp 64 = kp.map (· ^^^ 92) := by unfold outTo; rw [List.take_of_length_le (by rw [HKL.out]; omega)]; simp
        rw [hin] at e1
        rw [hout] at e2
        clear hin hout
        have HTw := HT.out.below (show Below w.heap.size w wr by rw [← HR.out]; exact eB)
        have HSw := HS.out.below (show Below w.heap.size w wr by rw [← HR.out]; exact eB)
        have HQw := HQ.out.below (show Below w.heap.size w wr by rw [← HR.out]; exact eB)
        have HQlt : ∀ ad, B = some ad → msg ≠ [] → ad.block < w.heap.size := fun ad e h0 => by
          obtain ⟨ad', e', hlt⟩ := HQ.out.blk_lt h0
          rw [e] at e'; cases e'
          exact hlt
        go_wp2_with fail
        refine (new_any ks s0 _ HSw).mono ?_
        rintro e w1 ⟨rfl, hH1, hB1⟩
        obtain ⟨E, hE⟩ : ∃ E, E = wr.heap.size := ⟨_, rfl⟩
        rw [← hE] at hH1 hB1 eO ⊢
        have hEs : E ≤ w1.heap.size := by rw [hE]; exact hB1.size
        have g0 := e0.below hB1 (by omega)
        have g1 := e1.below hB1 (by omega)
        have g2 := e2.below hB1 (by omega)
        have gB : Below R w w1 := eB.trans (hB1.mono (by omega))
        have gT := HTw.below (by rw [← hE]; exact hB1)
        have gQ := HQw.below (by rw [← hE]; exact hB1)
        have gS := HSw.below (by rw [← hE]; exact hB1)
        have hR0 : w.heap.size = R := HR.out.symm
        clear hE HTw HSw HQw e0 e1 e2 eB
        obtain ⟨ki, hki⟩ : ∃ ki, ki = kp.map (· ^^^ (54 : UInt8)) := ⟨_, rfl⟩
        obtain ⟨ko, hko⟩ : ∃ ko, ko = kp.map (· ^^^ (92 : UInt8)) := ⟨_, rfl⟩
        rw [← hki] at g1
        rw [← hko] at g2
        have hkil : ki.length = 64 := by rw [hki, List.length_map]; exact HKL.out
        have hkol : ko.length = 64 := by rw [hko, List.length_map]; exact HKL.out
        have HKI := Lib.hid hki
        have HKO := Lib.hid hko
        have HKIL := Lib.hid hkil
        have HKOL := Lib.hid hkol
        have hR0' := Lib.hid hR0
        clear hki hko hkil hkol hR0
        -- the inner key
        have rI : Rd encB w1 (some ⟨I, 0, none⟩) ki := fun i x hx => ⟨_, rfl, by rw [add_lit_, Nat.zero_add]; exact (g1.cell _).trans (arr_at hx)⟩
        have A1 := write_any ks hk s0 E [] ki 0 (some ⟨I, 0, none⟩) 64 w1 hH1 rI (fun _ ad e => by cases e; show I ≠ E; omega) (by rw [HKIL.out]; exact Nat.le_refl _) (by omega) (by rw [HKIL.out]; omega) gT (by omega)
        rw [HKIL.out] at A1
        have HA1 := Lib.hid A1
        clear A1 rI
        go_wp2_with fail
        refine HA1.out.mono ?_
        rintro e w2 ⟨rfl, hH2, k2⟩
        rw [List.nil_append, Nat.zero_add] at hH2
        have g0 := k2.blk g0 fun _ => by omega
        have g2 := k2.blk g2 fun _ => by omega
        have hs2 := k2.size
        have gB2 : Below R w w2 := gB.trans (k2.below (by omega) fun k i hk e => by omega)
        have hb2w : Below w.heap.size w w2 := by have := gB2; rwa [← hR0'.out] at this
        have gT := HT.out.below hb2w
        have gQ := HQ.out.below hb2w
        have gS := HS.out.below hb2w
        clear HA1 k2 hH1 gB g1
        -- the message
        have A2 := write_any ks hk s0 E ki msg 64 B d w2 hH2 gQ (fun h0 ad e => by have := HQlt ad e h0; have := hR0'.out; omega) hm hd (by omega) gT (by omega)
        have HA2 := Lib.hid A2
        clear A2
        go_wp2_with fail
        refine HA2.out.mono ?_
        rintro e w3 ⟨rfl, hH3, k3⟩
        have g0 := k3.blk g0 fun _ => by omega
        have g2 := k3.blk g2 fun _ => by omega
        have hs3 := k3.size
        have gB3 : Below R w w3 := gB2.trans (k3.below (by omega) fun k i hk e => by omega)
        have hb3w : Below w.heap.size w w3 := by have := gB3; rwa [← hR0'.out] at this
        have gT := HT.out.below hb3w
        have gS := HS.out.below hb3w
        have hlen3 : (ki ++ msg).length = 64 + msg.length := by rw [List.length_append, HKIL.out]
        rw [← hlen3] at hH3
        have A3 := Lib.hid (sum_any ks hk s0 E (ki ++ msg) w3 hH3 (by rw [hlen3]; omega) gT)
        have HL3 := Lib.hid hlen3
        clear HA2 k3 hH2 gQ hlen3 gB2 hb2w
        go_wp2_with fail
        refine A3.out.mono ?_
        rintro e w4 ⟨rfl, hB4⟩
        obtain ⟨d1, hd1⟩ : ∃ d1, d1 = digestL ks s0 (ki ++ msg) := ⟨_, rfl⟩
        rw [← hd1]
        have hd1l : d1.length = 32 := by rw [hd1]; exact digestL_len _ _ _
        have HD1 := Lib.hid hd1
        have HD1L := Lib.hid hd1l
        have hE3 := hH3.lt
        have hH4 := hH3.below hB4 hE3
        have g0 := g0.below hB4 (by omega)
        have g2 := g2.below hB4 (by omega)
        have hs4 := hB4.size
        have gB4 : Below R w w4 := gB3.trans (hB4.mono (by omega))
        clear hd1 hd1l A3 hB4 hH3 gB3 hb3w gT gS
        go_wp2_with (first
          | ((with_reducible refine wpList_store_blk rfl 36 (.tmp 10) (.tmp 45) rfl w4.heap.size 36 (arr encB zero32) (arr encB d1) ?hb rfl rfl (arrSz HD1L.out) ?hl (arr_one encB_one _) ?_); (case hb => exact Blk.new w4 _ _); (case hl => rw [arr_size, arr_size, zero32_len, HD1L.out]); intro w5 hb5 hg5 hs5; have HS5 := Lib.hid hs5; clear hs5))
        have hs5 : w5.heap.size = w4.heap.size + 1 := by rw [HS5.out]; simp
        obtain ⟨D, hD⟩ : ∃ D, D = w4.heap.size := ⟨_, rfl⟩
        rw [← hD] at hb5 hg5 ⊢
        have ne : ∀ k, k < D → some k ≠ some D := fun k hk e => by injection e with e; omega
        have hH5 : HashS w5 E ks s0 (ki ++ msg) (ki ++ msg).length := by
          obtain ⟨p, h1, h2, h3⟩ := hH4
          exact ⟨p, h1, (h2.alloc _).grown hg5 (ne _ (by omega)), h3⟩
        have g0 := (g0.alloc (.cells (arr encB zero32) 36)).grown hg5 (ne _ (by omega))
        have g2 := (g2.alloc (.cells (arr encB zero32) 36)).grown hg5 (ne _ (by omega))
        have gB5 : Below R w w5 := (gB4.alloc (by omega) _).grown hg5 (by rw [World.size_alloc]; omega) fun k e => by cases e; omega
        have hb5w : Below w.heap.size w w5 := by have := gB5; rwa [← hR0'.out] at this
        have gS := HS.out.below hb5w
        have A4 := Lib.hid (reset_any ks s0 E (ki ++ msg) _ w5 hH5 gS)
        have HDD := Lib.hid hD
        have hED : E < D := by omega
        clear hH4 gB4 hg5 hD ne hH5 gS
        refine A4.out.mono ?_
        rintro e w6 ⟨rfl, hH6, k6⟩
        have g0 := k6.blk g0 fun _ => by omega
        have g2 := k6.blk g2 fun _ => by omega
        have g5 := k6.blk hb5 fun _ => by omega
        have hs6 := k6.size
        have gB6 : Below R w w6 := gB5.trans (k6.below (by omega) fun k i hk e => by omega)
        have hb6w : Below w.heap.size w w6 := by have := gB6; rwa [← hR0'.out] at this
        have A5 := write_any ks hk s0 E [] ko 0 (some ⟨O, 0, none⟩) 64 w6 hH6 (rd_blk g2) (fun _ ad e => by cases e; show O ≠ E; omega) (by rw [HKOL.out]; exact Nat.le_refl _) (by omega) (by rw [HKOL.out]; omega) (HT.out.below hb6w) (by omega)
        rw [HKOL.out] at A5
        have HA5 := Lib.hid A5
        clear A5 A4 k6 gB5 hb5 hb5w
        go_wp2_with fail
        refine HA5.out.mono ?_
        rintro e w7 ⟨rfl, hH7, k7⟩
        rw [List.nil_append, Nat.zero_add] at hH7
        have g0 := k7.blk g0 fun _ => by omega
        have g5 := k7.blk g5 fun _ => by omega
        have hs7 := k7.size
        have gB7 : Below R w w7 := gB6.trans (k7.below (by omega) fun k i hk e => by omega)
        have hb7w : Below w.heap.size w w7 := by have := gB7; rwa [← hR0'.out] at this
        have A6 := write_any ks hk s0 E ko d1 64 (some ⟨D, 0, none⟩) 32 w7 hH7 (rd_blk g5) (fun _ ad e => by cases e; show D ≠ E; omega) (by rw [HD1L.out]; exact Nat.le_refl _) (by omega) (by rw [HD1L.out]; omega) (HT.out.below hb7w) (by omega)
        rw [HD1L.out] at A6
        have HA6 := Lib.hid A6
        clear A6 HA5 k7 gB6 hH6 hb6w g2
        go_wp2_with fail
        refine HA6.out.mono ?_
        rintro e w8 ⟨rfl, hH8, k8⟩
        have g0 := k8.blk g0 fun _ => by omega
        have hs8 := k8.size
        have gB8 : Below R w w8 := gB7.trans (k8.below (by omega) fun k i hk e => by omega)
        have hb8w : Below w.heap.size w w8 := by have := gB8; rwa [← hR0'.out] at this
        have hlen8 : (ko ++ d1).length = 64 + 32 := by rw [List.length_append, HKOL.out, HD1L.out]
        rw [← hlen8] at hH8
        have A7 := Lib.hid (sum_any ks hk s0 E (ko ++ d1) w8 hH8 (by rw [hlen8]; omega) (HT.out.below hb8w))
        clear HA6 k8 gB7 hH7 hb7w g5 hlen8
        go_wp2_with fail
        refine A7.out.mono ?_
        rintro e w9 ⟨rfl, hB9⟩
        have hfin : macL ks s0 key msg = digestL ks s0 (ko ++ d1) := by rw [HD1.out, HKO.out, HKI.out, HKP.out]; rfl
        have HFIN := Lib.hid hfin
        have g0 := g0.below hB9 (by omega)
        have gB9 : Below R w w9 := gB8.trans (hB9.mono (by omega))
        have hdl := digestL_len ks s0 (ko ++ d1)
        have HDL := Lib.hid hdl
        have hs9 := hB9.size
        clear hfin A7 gB8 hb8w hH8 hB9 hdl
        go_wp2_with (first
          | ((with_reducible refine wpList_store_blk rfl 36 (.tmp 4) (.tmp 55) rfl R 36 (arr encB zero32) (arr encB (digestL ks s0 (ko ++ d1))) ?hb rfl rfl (arrSz HDL.out) ?hl (arr_one encB_one _) ?_); (case hb => exact g0); (case hl => rw [arr_size, arr_size, zero32_len, HDL.out]); intro wA hbA hgA hsA))
        have hfinB : Below R w wA := below_only gB9 hgA (by omega) (Nat.le_refl _)
        rw [← hR0'.out] at hfinB
        refine bodyPost_cell rfl R 36 _ (0, 0) _ rfl hbA arrTy rfl (arrSz HDL.out) rfl ⟨by rw [HFIN.out], hfinB⟩
end
end Go.Proofs.YtepikbmlhejobaaDoor
