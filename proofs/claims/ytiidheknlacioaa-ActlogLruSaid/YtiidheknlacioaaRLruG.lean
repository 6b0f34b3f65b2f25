/- The document's Lru (package replicaref04): Get, Put, by contract. -/
import Derived.Test.YtiidheknlacioaaRLruF
namespace Go.Proofs.Ytiidheknlacioaa
open Go.RowKit
set_option linter.unusedVariables false
set_option linter.unusedSimpArgs false
def rGetV (s : LruS) (key : Int) : Value := match getO s key with
  | .hit i => .tuple #[.int .i64 (i : Int), .bool false, .int .i64 0, .bool false, .int .i64 0]
  | .fresh i => .tuple #[.int .i64 (i : Int), .bool true, .int .i64 0, .bool false, .int .i64 0]
  | .evict i old => .tuple #[.int .i64 (i : Int), .bool true, .int .i64 old, .bool true, .int .i64 0]
  | .starved => .tuple #[.int .i64 0, .bool false, .int .i64 0, .bool false, .int .i64 41]
def RGetP (w : World) (G : Nat) (s : LruS) (r : RLru) (A : Option Addr) (c : Nat) (key : Int) (e : Ending) (w' : World) : Prop := e = .returned (rGetV s key) ∧ RIn w' G (rGetT r s key) A c ∧ Chg (rFp G A c) w w'
theorem rSlotI_of {s : LruS} {r : RLru} (hs : RSim s r) (key : Int) : rSlotI r.cs key = slotI s key := by unfold rSlotI slotI; rw [hs.slot]; cases slotS s key <;> rfl
section
variable {w w' : World} {G c : Nat} {s : LruS} {r : RLru} {F F' : Nat → Nat → Prop} {A : Option Addr}
theorem rFree_at {l : List Cel} {k : Nat} {u : Cel} (hu : l[k]? = some u) (e : u.1 = false) (hn : ∀ (j : Nat) (v : Cel), j < k → l[j]? = some v → v.1 = true) : rFree l = some k := by
  have hk := (List.getElem?_eq_some_iff.1 hu).1
  unfold rFree
  rw [List.findIdx?_eq_some_iff_getElem]
  refine ⟨hk, ?_, fun j hj => ?_⟩
  · rw [List.getElem?_eq_getElem hk] at hu; rw [Option.some.inj hu, e]; rfl
  · rw [hn j l[j] hj (List.getElem?_eq_getElem (by omega))]; decide
theorem rFree_no {l : List Cel} (hn : ∀ (j : Nat) (v : Cel), j < l.length → l[j]? = some v → v.1 = true) : rFree l = none := by
  unfold rFree
  rw [List.findIdx?_eq_none_iff]
  intro u hu
  obtain ⟨j, hj, rfl⟩ := List.getElem_of_mem hu
  rw [hn j l[j] hj (List.getElem?_eq_getElem hj)]
  rfl
theorem rIdleI_of (hs : RSim s r) : rIdleI r.cs = match s.idle with | [] => -1 | i :: _ => (i : Int) := by
  have h := hs.idle
  unfold rIdle at h
  unfold rIdleI bestI
  rw [h]
  cases s.idle <;> rfl
set_option maxRecDepth 20000 in
set_option maxHeartbeats 4000000 in
theorem rget_hit (key : Int) (h : RIn w G r A c) (hl : r.cs.length ≤ 16) (hs : RSim s r) {i : Nat} (hi : slotS s key = some i) (hb : (plcAt s i).2 ≤ 9223372036854775806) : Calls Try.prog 62 #[.pointer (some ⟨G, 0, none⟩), .int .i64 key] w (RGetP w G s r A c key) := by
  have HS := Lib.hid (rslot_any key h hl)
  have e1 : rSlotI r.cs key = (i : Int) := by unfold rSlotI; rw [hs.slot, hi]
  rw [e1] at HS
  obtain ⟨h1, hlt, _⟩ := slotS_some hi
  obtain ⟨gv, hx, _, hce⟩ := hs.cel h1
  obtain ⟨n, hn⟩ : ∃ n, n = (plcAt s i).2 := ⟨_, rfl⟩
  rw [← hn] at h1 hb hx hce
  have h0 := hs.ok.refs _ _ _ h1
  obtain ⟨g, o, hA, hgl, hc⟩ := h.row.cell hx
  subst hA
  obtain ⟨x2, f2⟩ : w.cell? ⟨g, o + i * 4 + 2, none⟩ = some (.int .i64 n) ∧ w.frozen? ⟨g, o + i * 4 + 2, none⟩ = false := hc 2 _ rfl
  have hO : getO s key = .hit i := by unfold getO; rw [hi]
  have fin : ∀ q, RGetP w G s r (some ⟨g, o, none⟩) c key (.returned (.tuple #[.int .i64 (i : Int), .bool false, .int .i64 0, .bool false, .int .i64 0])) ((w.drewN q).setCell ⟨g, o + i * 4 + 2, none⟩ (.int .i64 (n + 1))) := fun q => by
    obtain ⟨R, k⟩ := (h.drewN q).cell (y := (true, key, n + 1, gv)) (j := 2) (v := .int .i64 (n + 1)) rfl hx (by decide) rfl
    rw [show o + (i * 4 + 2) = o + i * 4 + 2 by omega] at R k
    refine ⟨by unfold rGetV; rw [hO], ?_, ((Chg.refl _ w).drewN q).trans k fun _ _ _ h => h⟩
    have : rGetT r s key = ⟨r.cs.set i (true, key, n + 1, gv), r.puts⟩ := by unfold rGetT; rw [hO]; dsimp only; rw [hce]; rfl
    rw [this]
    exact R
  have HF := Lib.hid fin
  obtain ⟨c0, c1⟩ := h.cells
  have hlt' : (i : Int) < (r.cs.length : Int) := by have := (List.getElem?_eq_some_iff.1 hx).1; omega
  have hn0 : ¬ (i : Int) < 0 := by omega
  have hp0 : (0 : Int) ≤ (i : Int) := by omega
  have hwr : IntKind.i64.wrap (n + 1) = n + 1 := i64_in_ _ ⟨by omega, by omega⟩
  clear fin hO hc hx hce h1 hlt hi hs h e1 hn
  go_enter Try.func62, Try.ntmps62
  go_wp2_with (first
    | (go_at_call 68; (with_reducible refine HS.out.mono ?_); rintro e w' ⟨rfl, m2, rfl⟩))
  (try simp only [Exit.inBlock, Exit.then]); refine bodyPost_ret (results_tmp5 rfl _ _ _) rfl ?_
  exact HF.out _
set_option maxRecDepth 20000 in
set_option maxHeartbeats 4000000 in
theorem rget_miss (key : Int) (h : RIn w G r A c) (hl : r.cs.length ≤ 16) (hs : RSim s r) (hi : slotS s key = none) : Calls Try.prog 62 #[.pointer (some ⟨G, 0, none⟩), .int .i64 key] w (RGetP w G s r A c key) := by
  have HS := Lib.hid (rslot_any key h hl)
  have e1 : rSlotI r.cs key = -1 := by unfold rSlotI; rw [hs.slot, hi]
  rw [e1] at HS
  obtain ⟨L, hL⟩ : ∃ L, L = r.cs.length := ⟨_, rfl⟩
  rw [← hL] at hl
  have HL := Lib.hid hL
  have H := Lib.hid h
  have HI := Lib.hid hi
  have HSm := Lib.hid hs
  clear hL h hi hs e1
  have FR : ∀ (q : Nat) (k : Nat) (g o : Nat), A = some ⟨g, o, none⟩ → k < L → freeS s = some k → (w.drewN q).there g (o + k * 4) 4 ∧ RGetP w G s r A c key (.returned (.tuple #[.int .i64 (k : Int), .bool true, .int .i64 0, .bool false, .int .i64 0])) ((w.drewN q).setCells g (o + k * 4) (encC (true, key, 1, 0))) := fun q k g o hA hk hf => by
    obtain ⟨R, t, K⟩ := (H.out.drewN q).el hA (a := k) (by rw [← HL.out]; exact hk) (true, key, 1, 0)
    have hO : getO s key = .fresh k := by unfold getO; rw [HI.out, hf]
    refine ⟨t, by unfold rGetV; rw [hO], ?_, ((Chg.refl _ w).drewN q).trans K fun _ _ _ h => h⟩
    have : rGetT r s key = ⟨r.cs.set k (true, key, 1, 0), r.puts⟩ := by unfold rGetT; rw [hO]; rfl
    rw [this]
    exact R
  have HFR := Lib.hid FR
  clear FR
  obtain ⟨c0, c1⟩ := H.out.cells
  rw [← HL.out] at c0
  have hone : (#[.bool true, .int .i64 key, .int .i64 1, .int .i64 0] : Array Value).all (·.oneCell') = true := by simp [Value.oneCell']
  have hsz : (Try.prog.info? 133).map (·.size) = some (#[.bool true, .int .i64 key, .int .i64 1, .int .i64 0] : Array Value).size := rfl
  go_enter Try.func62, Try.ntmps62
  go_wp2_with (first
    | (go_at_call 68; (with_reducible refine HS.out.mono ?_); rintro e w' ⟨rfl, m2, rfl⟩))
  go_loopw [10] (fun t10 wr => ∃ k m : Nat, k ≤ L ∧ t10 = .int .i64 k ∧ wr = w.drewN m ∧ ∀ (j : Nat) (v : Cel), j < k → r.cs[j]? = some v → v.1 = true) (fun t10 _ => L - (intOf t10).toNat)
  case atStart => exact ⟨0, _, by omega, rfl, rfl, fun j v hj => by omega⟩
  case round =>
    obtain ⟨k, m, hk, rfl, rfl, hh⟩ := hrel
    have HH := Lib.hid hh
    clear hh
    by_cases hlt : k < L
    · obtain ⟨g, o, x, hA, _, hx, hc⟩ := H.out.row.rds.at_ (show k < r.cs.length by rw [← HL.out]; exact hlt)
      have x0 : w.cell? ⟨g, o + k * 4, none⟩ = some (.bool x.1) := hc 0 _ rfl
      have hlt' : (k : Int) < (L : Int) := by omega
      have Hx := Lib.hid hx
      clear hc hx
      obtain ⟨U, hU⟩ : ∃ U, U = x.1 := ⟨_, rfl⟩
      rw [← hU] at x0
      have HU := Lib.hid hU
      clear hU
      cases U with
      | true =>
        have next : ∀ (j : Nat) (v : Cel), j < k + 1 → r.cs[j]? = some v → v.1 = true := fun j v hj hv => by
          by_cases ej : j = k
          · subst ej; rw [Hx.out] at hv; cases hv; exact HU.out.symm
          · exact HH.out j v (by omega) hv
        have HNx := Lib.hid next
        clear next
        subst hA
        go_wp2
        go_roundw
        case rel => exact ⟨k + 1, _, by omega, by go_num, rfl, HNx.out⟩
        case measure => simp [intOf]; omega
      | false =>
        have hf : freeS s = some k := by rw [← HSm.out.free]; exact rFree_at Hx.out HU.out.symm HH.out
        have TH := Lib.hid (fun q => HFR.out q k g o hA hlt hf)
        subst hA
        clear hf
        go_wp2_with (first
          | ((with_reducible refine wpList_store_mid rfl 133 (.tmp 54) (.tmp 53) rfl g (o + k * 4) #[.bool true, .int .i64 key, .int .i64 1, .int .i64 0] rfl rfl (TH.out _).1 hsz hone ?_)))
        (try simp only [Exit.inBlock, Exit.then]); refine bodyPost_ret (results_tmp5 rfl _ _ _) rfl ?_
        exact (TH.out _).2
    · obtain rfl : k = L := by omega
      have hf : freeS s = none := by rw [← HSm.out.free]; exact rFree_no (HL.out ▸ HH.out)
      have HID := Lib.hid (ridle_any (H.out.drewN m) (by rw [← HL.out]; exact hl))
      have HII := Lib.hid (rIdleI_of HSm.out)
      cases hid : s.idle with
      | nil =>
        have hO : getO s key = .starved := by unfold getO; rw [HI.out, hf]; dsimp only; rw [hid]
        have e2 : rIdleI r.cs = -1 := by rw [HII.out, hid]
        rw [e2] at HID
        have fin : ∀ w2, Below (w.drewN m).heap.size (w.drewN m) w2 → RGetP w G s r A c key (.returned (.tuple #[.int .i64 0, .bool false, .int .i64 0, .bool false, .int .i64 41])) w2 := fun w2 B =>
          ⟨by unfold rGetV; rw [hO], by unfold rGetT; rw [hO]; exact (H.out.drewN m).below B, ((Chg.refl _ w).drewN m).trans (Chg.of_below (rFp G A c) B) fun _ _ _ h => h⟩
        have HF := Lib.hid fin
        clear fin hO e2 hf hid
        go_wp2_with fail
        refine HID.out.mono ?_
        rintro e w2 ⟨rfl, B2⟩
        go_wp2
        (try simp only [Exit.inBlock, Exit.then]); refine bodyPost_ret (results_tmp5 rfl _ _ _) rfl ?_
        exact HF.out _ B2
      | cons j l =>
        obtain ⟨k0, hk0⟩ := (HSm.out.ok.idle j).1 (by rw [hid]; exact List.mem_cons_self ..)
        obtain ⟨gv, hx, _, _⟩ := HSm.out.cel hk0
        have hO : getO s key = .evict j k0 := by unfold getO; rw [HI.out, hf]; dsimp only; rw [hid]; dsimp only; rw [plcAt_eq hk0]
        have e2 : rIdleI r.cs = (j : Int) := by rw [HII.out, hid]
        rw [e2] at HID
        have hjl := (List.getElem?_eq_some_iff.1 hx).1
        obtain ⟨g, o, hA, _, _⟩ := H.out.row.cell hx
        have fin : ∀ w2, Below (w.drewN m).heap.size (w.drewN m) w2 → w2.there g (o + j * 4) 4 ∧ RGetP w G s r A c key (.returned (.tuple #[.int .i64 (j : Int), .bool true, .int .i64 k0, .bool true, .int .i64 0])) (w2.setCells g (o + j * 4) (encC (true, key, 1, 0))) := fun w2 B => by
          obtain ⟨R, t, K⟩ := ((H.out.drewN m).below B).el hA hjl (true, key, 1, 0)
          refine ⟨t, by unfold rGetV; rw [hO], ?_, (((Chg.refl _ w).drewN m).trans (Chg.of_below (rFp G A c) B) fun _ _ _ h => h).trans K fun _ _ _ h => h⟩
          have : rGetT r s key = ⟨r.cs.set j (true, key, 1, 0), r.puts⟩ := by unfold rGetT; rw [hO]; rfl
          rw [this]
          exact R
        have HF := Lib.hid fin
        have hjl' : (j : Int) < (k : Int) := by have := HL.out; omega
        have hn0 : ¬ (j : Int) < 0 := by omega
        have hp0 : (0 : Int) ≤ (j : Int) := by omega
        have HX := Lib.hid hx
        clear fin hO e2 hf hid hx hk0 hjl
        go_wp2_with fail
        refine HID.out.mono ?_
        rintro e w2 ⟨rfl, B2⟩
        have TH := Lib.hid (HF.out _ B2)
        have R2 := Lib.hid ((H.out.drewN m).below B2)
        obtain ⟨d0, _⟩ := R2.out.cells
        rw [← HL.out] at d0
        obtain ⟨_, _, e3, _, hc⟩ := R2.out.row.cell HX.out
        rw [hA] at e3
        cases e3
        have x1 : w2.cell? ⟨g, o + j * 4 + 1, none⟩ = some (.int .i64 k0) := (hc 1 _ rfl).1
        subst hA
        have TH2 : w2.there g (o + j * 4) (#[.bool true, .int .i64 key, .int .i64 1, .int .i64 0] : Array Value).size := TH.out.1
        clear hc B2 HF HID
        go_wp2_with (first
          | ((with_reducible refine wpList_store_mid rfl 133 (.tmp 75) (.tmp 74) rfl g (o + j * 4) #[.bool true, .int .i64 key, .int .i64 1, .int .i64 0] rfl rfl TH2 hsz hone ?_)))
        (try simp only [Exit.inBlock, Exit.then]); refine bodyPost_ret (results_tmp5 rfl _ _ _) rfl ?_
        exact TH.out.2
theorem rget_any (key : Int) (h : RIn w G r A c) (hl : r.cs.length ≤ 16) (hs : RSim s r) (hb : ∀ i, (plcAt s i).2 ≤ 9223372036854775806) : Calls Try.prog 62 #[.pointer (some ⟨G, 0, none⟩), .int .i64 key] w (RGetP w G s r A c key) := by
  cases hi : slotS s key with
  | none => exact rget_miss key h hl hs hi
  | some i => exact rget_hit key h hl hs hi (hb i)

/-! ### Put -/
def RPutP (w : World) (G : Nat) (s : LruS) (r : RLru) (A : Option Addr) (c : Nat) (key : Int) (e : Ending) (w' : World) : Prop := e = .returned (.int .i64 (putR s key)) ∧ RIn w' G (rPutT r s key) A c ∧ Chg (rFp G A c) w w'
set_option maxRecDepth 20000 in
set_option maxHeartbeats 4000000 in
theorem rput_cold (key : Int) (h : RIn w G r A c) (hl : r.cs.length ≤ 16) (hs : RSim s r) (hc : ∀ i, slotS s key = some i → (plcAt s i).2 = 0) : Calls Try.prog 64 #[.pointer (some ⟨G, 0, none⟩), .int .i64 key] w (RPutP w G s r A c key) := by
  have HS := Lib.hid (rslot_any key h hl)
  have fin : putR s key = 42 → rPutT r s key = r → ∀ q, RPutP w G s r A c key (.returned (.int .i64 42)) (w.drewN q) := fun e1 e2 q => ⟨by rw [e1], by rw [e2]; exact h.drewN q, (Chg.refl _ w).drewN q⟩
  obtain ⟨c0, c1⟩ := h.cells
  cases hi : slotS s key with
  | none =>
    have e1 : rSlotI r.cs key = -1 := by unfold rSlotI; rw [hs.slot, hi]
    rw [e1] at HS
    have HF := Lib.hid (fin (by unfold putR; rw [hi]) (by unfold rPutT; rw [hi]))
    clear fin hi hs hc h e1
    go_enter Try.func64, Try.ntmps64
    go_wp2_with (first
      | (go_at_call 68; (with_reducible refine HS.out.mono ?_); rintro e w' ⟨rfl, m2, rfl⟩))
    go_ret
    exact HF.out _
  | some i =>
    have e1 : rSlotI r.cs key = (i : Int) := by unfold rSlotI; rw [hs.slot, hi]
    rw [e1] at HS
    have h0 := hc i hi
    obtain ⟨h1, _, _⟩ := slotS_some hi
    obtain ⟨gv, hx, _, _⟩ := hs.cel h1
    rw [h0] at hx
    obtain ⟨g, o, hA, _, hcc⟩ := h.row.cell hx
    subst hA
    have x2 : w.cell? ⟨g, o + i * 4 + 2, none⟩ = some (.int .i64 0) := (hcc 2 _ rfl).1
    have HF := Lib.hid (fin (by unfold putR; rw [hi]; dsimp only; rw [if_pos h0]) (by unfold rPutT; rw [hi]; dsimp only; rw [if_pos h0]))
    have hlt' : (i : Int) < (r.cs.length : Int) := by have := (List.getElem?_eq_some_iff.1 hx).1; omega
    have hn0 : ¬ (i : Int) < 0 := by omega
    have hp0 : (0 : Int) ≤ (i : Int) := by omega
    clear fin hi hs hc h e1 h0 h1 hx hcc
    go_enter Try.func64, Try.ntmps64
    go_wp2_with (first
      | (go_at_call 68; (with_reducible refine HS.out.mono ?_); rintro e w' ⟨rfl, m2, rfl⟩))
    go_ret
    exact HF.out _
set_option maxRecDepth 20000 in
set_option maxHeartbeats 4000000 in
theorem rput_back (key : Int) (h : RIn w G r A c) (hl : r.cs.length ≤ 16) (hs : RSim s r) {i : Nat} (hi : slotS s key = some i) (hne : (plcAt s i).2 ≠ 0) (hb : (plcAt s i).2 ≤ 9223372036854775806) (hp : r.puts ≤ 9223372036854775806) : Calls Try.prog 64 #[.pointer (some ⟨G, 0, none⟩), .int .i64 key] w (RPutP w G s r A c key) := by
  have HS := Lib.hid (rslot_any key h hl)
  have e1 : rSlotI r.cs key = (i : Int) := by unfold rSlotI; rw [hs.slot, hi]
  rw [e1] at HS
  obtain ⟨h1, hlt, _⟩ := slotS_some hi
  obtain ⟨gv, hx, _, hce⟩ := hs.cel h1
  have hR : putR s key = 0 := by unfold putR; rw [hi]; dsimp only; rw [if_neg hne]
  have hT : rPutT r s key = ⟨r.cs.set i (true, key, (plcAt s i).2 - 1, r.puts + 1), r.puts + 1⟩ := by unfold rPutT; rw [hi]; dsimp only; rw [if_neg hne, hce]
  obtain ⟨n, hn⟩ : ∃ n, n = (plcAt s i).2 := ⟨_, rfl⟩
  rw [← hn] at h1 hb hx hce hne hT
  have h0 := hs.ok.refs _ _ _ h1
  obtain ⟨P, hP⟩ : ∃ P, P = r.puts := ⟨_, rfl⟩
  have hp0 := hs.p0
  rw [← hP] at hT hp hp0
  obtain ⟨g, o, hA, hgl, hc⟩ := h.row.cell hx
  have hil := (List.getElem?_eq_some_iff.1 hx).1
  subst hA
  have fin : ∀ q, ∃ W1 W2, (w.drewN q).setCell ⟨G, 1, none⟩ (.int .i64 (P + 1)) = W1 ∧ W1.setCell ⟨g, o + i * 4 + 2, none⟩ (.int .i64 (n - 1)) = W2 ∧ Hid (RIn W1 G ⟨r.cs, P + 1⟩ (some ⟨g, o, none⟩) c) ∧ Hid (RIn W2 G ⟨r.cs.set i (true, key, n - 1, gv), P + 1⟩ (some ⟨g, o, none⟩) c) ∧ Hid (∀ q2, RPutP w G s r (some ⟨g, o, none⟩) c key (.returned (.int .i64 0)) ((W2.setCell ⟨g, o + i * 4 + 3, none⟩ (.int .i64 (P + 1))).drewN q2)) := fun q => by
    obtain ⟨R1, K1⟩ := (h.drewN q).put1 (P + 1)
    obtain ⟨R2, K2⟩ := R1.cell (y := (true, key, n - 1, gv)) (j := 2) (v := .int .i64 (n - 1)) rfl hx (by decide) rfl
    obtain ⟨R3, K3⟩ := R2.cell (y := (true, key, n - 1, P + 1)) (j := 3) (v := .int .i64 (P + 1)) rfl (getElem?_set_at _ hil) (by decide) rfl
    rw [show o + (i * 4 + 2) = o + i * 4 + 2 by omega] at R2 K2 R3 K3
    rw [show o + (i * 4 + 3) = o + i * 4 + 3 by omega] at R3 K3
    refine ⟨_, _, rfl, rfl, Lib.hid R1, Lib.hid R2, Lib.hid fun q2 => ⟨by rw [hR], ?_, ?_⟩⟩
    · rw [hT]
      have := R3.drewN q2
      rwa [List.set_set] at this
    · exact (((((Chg.refl _ w).drewN q).trans K1 fun _ _ _ h => h).trans K2 fun _ _ _ h => h).trans K3 fun _ _ _ h => h).drewN q2
  have HF := Lib.hid fin
  obtain ⟨c0, c1⟩ := h.cells
  have f1 := h.frz 1
  rw [← hP] at c1
  have hlt' : (i : Int) < (r.cs.length : Int) := by omega
  have hn0 : ¬ (i : Int) < 0 := by omega
  have hi0 : (0 : Int) ≤ (i : Int) := by omega
  have hw1 : IntKind.i64.wrap (P + 1) = P + 1 := i64_in_ _ ⟨by omega, by omega⟩
  have hw2 : IntKind.i64.wrap (n - 1) = n - 1 := i64_in_ _ ⟨by omega, by omega⟩
  have hnb : (n == 0) = false := by simpa using hne
  have HX := Lib.hid hx
  have x2 : w.cell? ⟨g, o + i * 4 + 2, none⟩ = some (.int .i64 n) := (hc 2 _ rfl).1
  obtain ⟨L, hL⟩ : ∃ L, L = r.cs.length := ⟨_, rfl⟩
  rw [← hL] at c0 hlt'
  have HL := Lib.hid hL
  clear fin hR hT hc hx hce h1 hlt hi hs h e1 hn hP hL hil hne
  go_enter Try.func64, Try.ntmps64
  go_upto_region 4 with (first
    | (go_at_call 68; (with_reducible refine HS.out.mono ?_); rintro e w' ⟨rfl, m2, rfl⟩))
  obtain ⟨W1, W2, hW1, hW2, R1, R2, HE⟩ := HF.out m2
  obtain ⟨d0, d1⟩ := R1.out.cells
  obtain ⟨_, _, e3, _, hc3⟩ := R1.out.row.cell HX.out
  cases e3
  obtain ⟨y2, y2f⟩ : W1.cell? ⟨g, o + i * 4 + 2, none⟩ = some (.int .i64 n) ∧ W1.frozen? ⟨g, o + i * 4 + 2, none⟩ = false := hc3 2 _ rfl
  obtain ⟨p0, p1⟩ := R2.out.cells
  obtain ⟨_, _, e4, _, hc4⟩ := R2.out.row.cell (getElem?_set_at _ (List.getElem?_eq_some_iff.1 HX.out).1)
  cases e4
  obtain ⟨z3, z3f⟩ : W2.cell? ⟨g, o + i * 4 + 3, none⟩ = some (.int .i64 gv) ∧ W2.frozen? ⟨g, o + i * 4 + 3, none⟩ = false := hc4 3 _ rfl
  rw [← HL.out] at d0
  rw [show (r.cs.set i (true, key, n - 1, gv)).length = L by rw [List.length_set, HL.out]] at p0
  clear hc3 hc4 HF HS
  go_wp2
  go_still_tail 9, (by kernel_rfl)
  go_wp2
  go_ret
  exact HE.out _
theorem rput_any (key : Int) (h : RIn w G r A c) (hl : r.cs.length ≤ 16) (hs : RSim s r) (hb : ∀ i, (plcAt s i).2 ≤ 9223372036854775806) (hp : r.puts ≤ 9223372036854775806) : Calls Try.prog 64 #[.pointer (some ⟨G, 0, none⟩), .int .i64 key] w (RPutP w G s r A c key) := by
  by_cases hc : ∀ i, slotS s key = some i → (plcAt s i).2 = 0
  · exact rput_cold key h hl hs hc
  · obtain ⟨i, hc⟩ := Classical.not_forall.1 hc
    obtain ⟨hi, h0⟩ := Classical.not_imp.1 hc
    exact rput_back key h hl hs hi h0 (hb i) hp
end
end Go.Proofs.Ytiidheknlacioaa
