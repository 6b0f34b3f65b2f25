/- The Lru of package actlog, keys texts: Keys, by contract. -/
import Derived.Test.YtiidheknlacioaaLruUS
import Derived.Test.YtiidheknlacioaaArr
namespace Go.Proofs.Ytiidheknlacioaa.KS
open Go.RowKit
set_option linter.unusedVariables false
set_option linter.unusedSimpArgs false
theorem kTy : SlTy Try.prog 139 9 1 16 := SlTy.mk' (z := .string ⟨#[]⟩) Try.underlying139 (by kernel_rfl) rfl
theorem kC_len (k : Int) : (kC k).length = 1 := rfl
theorem kC_one (k : Int) : ∀ v ∈ kC k, v.oneCell' = true := fun v hv => by
  simp only [kC, List.mem_cons, List.not_mem_nil, or_false] at hv
  rcases hv with rfl; rfl
theorem busy_take {l : List Plc} {i : Nat} {p : Plc} (h : l[i]? = some p) : (l.take (i + 1)).filterMap busyK = (l.take i).filterMap busyK ++ (busyK p).toList := by
  rw [List.take_add_one, h, List.filterMap_append]
  cases hb : busyK p <;> simp [hb]
def KeysP (w : World) (s : LruS) (e : Ending) (w' : World) : Prop := ∃ A c, e = .returned (.slice A (keysS s).length c) ∧ GSl kC 1 9 w' A c (keysS s) ∧ Below w.heap.size w w' ∧ ∀ k i, slFp 1 A 0 c k i → w.heap.size ≤ k
section
variable {w w' : World} {G N gp b n ci : Nat} {s : LruS} {F F' : Nat → Nat → Prop} {Ai : Option Addr}
theorem plSzz (x y z : Value) : (Try.prog.info? 195).map (·.size) = some (#[x, y, z] : Array Value).size := plSz
theorem sizeP (x y z a b c : Value) : (#[x, y, z] : Array Value).size = (#[a, b, c] : Array Value).size := rfl
set_option maxRecDepth 20000 in
set_option maxHeartbeats 8000000 in
theorem keys_any (h : LruAt w G N s F) : Calls Try.prog 69 #[.pointer (some ⟨G, 0, none⟩)] w (KeysP w s) := by
  obtain ⟨gp, b, n, Ai, ci, h, hn, hF⟩ := h
  obtain ⟨c0, c1, c2⟩ := h.cells
  have hil := h.idle_len
  have hpl := h.len
  have H := Lib.hid h
  obtain ⟨L, hL⟩ : ∃ L, L = s.idle.length := ⟨_, rfl⟩
  obtain ⟨M, hM⟩ : ∃ M, M = s.ps.length := ⟨_, rfl⟩
  rw [← hL] at c2 hil
  rw [← hM] at c0 hpl
  have HL := Lib.hid hL
  have HM := Lib.hid hM
  clear h hL hM hF c1
  go_enter Try.func69, Try.ntmps69
  go_wp2_with fail
  go_loopw [3, 13] (fun t3 t13 wr => ∃ (k : Nat) (A : Option Addr) (c : Nat), k ≤ L ∧ t13 = .int .i64 k ∧ t3 = .slice A k c ∧ GSl kC 1 9 wr A c ((s.idle.take k).map fun i => (plcAt s i).1) ∧ Below w.heap.size w wr ∧ ∀ j i, slFp 1 A 0 c j i → w.heap.size ≤ j) (fun _ t13 _ => L - (intOf t13).toNat)
  case atStart => exact ⟨0, none, 0, Nat.zero_le _, rfl, rfl, GSl.nil_, Below.refl _ _, fun j i ⟨_, e, _⟩ => by cases e⟩
  case round =>
    obtain ⟨k, A, c, hk, rfl, rfl, hg, hB, hf⟩ := hrel
    have Hr := Lib.hid (H.out.chg (Chg.of_below (fun _ _ => False) hB) fun _ _ _ h => h)
    obtain ⟨q0, q1, q2⟩ := Hr.out.cells
    rw [← HL.out] at q2
    rw [← HM.out] at q0
    have hlen : ((s.idle.take k).map fun i => (plcAt s i).1).length = k := by rw [List.length_map, List.length_take, ← HL.out]; omega
    by_cases hlk : k < L
    · have hlk' : (k : Int) < (L : Int) := by omega
      obtain ⟨i, hi⟩ : ∃ i, s.idle[k]? = some i := ⟨_, List.getElem?_eq_getElem (by rw [← HL.out]; exact hlk)⟩
      obtain ⟨g, o, hA, hgl, hx⟩ := Hr.out.idl.cell hi
      have x0 : wr.cell? ⟨g, o + k, none⟩ = some (.int .i64 (i : Int)) := by have := (hx 0 _ rfl).1; rwa [Nat.mul_one, Nat.add_zero] at this
      obtain ⟨key, hp⟩ := (Hr.out.ok.idle i).1 (List.mem_of_getElem? hi)
      have hiM : (i : Int) < (M : Int) := by have := (List.getElem?_eq_some_iff.1 hp).1; rw [← HM.out] at this; omega
      have hpk : (plcAt s i).1 = key := by rw [plcAt_eq hp]
      have y0 : wr.cell? ⟨gp, i * 3, none⟩ = some (.string (nameB key)) := by have := (Hr.out.plc hp 0 _ rfl).1; rwa [Nat.add_zero] at this
      have hsn : (s.idle.take (k + 1)).map (fun i => (plcAt s i).1) = (s.idle.take k).map (fun i => (plcAt s i).1) ++ [key] := by rw [List.take_add_one, hi, List.map_append]; simp [hpk]
      have HG := Lib.hid hg
      have HB := Lib.hid hB
      have HFr := Lib.hid hf
      have HLN := Lib.hid hlen
      have HSN := Lib.hid hsn
      subst hA
      have gin : GSl kC 1 9 (wr.alloc (.cells (kC key).toArray 9)) A c ((s.idle.take k).map fun i => (plcAt s i).1) := hg.chg (Chg.alloc (fun k _ => wr.heap.size ≤ k) wr _) kC_len fun j i hj hle => by have := slFp_lt hg (slFp_len hg hj); omega
      have gnew : RdS kC 1 (wr.alloc (.cells (kC key).toArray 9)) (some ⟨wr.heap.size, 0, none⟩) [key] := RdS.new1 kC 1 wr 9 key
      clear hg hB hf hlen hsn hx hp hi
      go_wp2_with (first
        | (at_builtin; refine wpList_appendG kTy (by decide) kC_len kC_one rfl (.tmp 17) (.tmp 26) rfl A c ((s.idle.take k).map fun i => (plcAt s i).1) (by rw [HLN.out]; rfl) gin (some ⟨wr.heap.size, 0, none⟩) 1 [key] rfl gnew (by rw [HLN.out]; simp only [maxLen, List.length_singleton]; omega) (by rw [HLN.out]; simp only [List.length_singleton]; omega) ?_; intro A4 c4 w4 g4 k4 q4))
      have f4 : ∀ j i, slFp 1 A4 0 c4 j i → w.heap.size ≤ j := fun j i hj => by
        rcases q4 with ⟨rfl, rfl⟩ | ⟨g', rfl, hg'⟩
        · exact HFr.out j i hj
        · obtain ⟨o', e, _⟩ := hj; cases e; have := HB.out.size; simp at hg'; omega
      have B4 : Below w.heap.size w w4 := (HB.out.alloc HB.out.size _).trans (k4.below (by have := HB.out.size; simp; omega) fun j i hj hs => by have := HFr.out j i (slFp_zero hs); omega)
      rw [← HSN.out] at g4
      go_roundw
      case rel => exact ⟨k + 1, A4, c4, by omega, by go_num, by have := HL.out; congr 1; omega, g4, B4, f4⟩
      case measure => simp [intOf]; omega
    · obtain rfl : k = L := by omega
      rw [List.take_of_length_le (by rw [← HL.out]; exact Nat.le_refl _)] at hg hlen
      have HG := Lib.hid hg
      have HB := Lib.hid hB
      have HFr := Lib.hid hf
      have HLN := Lib.hid hlen
      clear hg hB hf hlen q2 q1
      go_wp2_with fail
      obtain ⟨I, hI⟩ : ∃ I, I = s.idle.map (fun i => (plcAt s i).1) := ⟨_, rfl⟩
      have HI := Lib.hid hI
      rw [← hI] at HG HLN
      go_loopw [3, 34] (fun t3 t34 wr => ∃ (k : Nat) (A : Option Addr) (c : Nat), k ≤ M ∧ t34 = .int .i64 k ∧ t3 = .slice A (I ++ (s.ps.take k).filterMap busyK).length c ∧ GSl kC 1 9 wr A c (I ++ (s.ps.take k).filterMap busyK) ∧ Below w.heap.size w wr ∧ ∀ j i, slFp 1 A 0 c j i → w.heap.size ≤ j) (fun _ t34 _ => M - (intOf t34).toNat)
      case atStart => exact ⟨0, A, c, Nat.zero_le _, rfl, by simp [HLN.out], by simpa using HG.out, HB.out, HFr.out⟩
      case round =>
        clear HG HB HFr hI q0
        obtain ⟨j, A2, cc2, hj, rfl, rfl, hg, hB, hf⟩ := hrel
        have Hr2 := Lib.hid (H.out.chg (Chg.of_below (fun _ _ => False) hB) fun _ _ _ h => h)
        obtain ⟨Z, hZ⟩ : ∃ Z, Z = I ++ (s.ps.take j).filterMap busyK := ⟨_, rfl⟩
        rw [← hZ] at hg ⊢
        have hZl : Z.length ≤ 32 := by
          rw [hZ, List.length_append]
          have h1 := List.length_filterMap_le busyK (s.ps.take j)
          rw [List.length_take, ← HM.out] at h1
          have h2 := HLN.out
          omega
        by_cases hjm : j < M
        · have hjm' : (j : Int) < (M : Int) := by omega
          obtain ⟨p, hp⟩ : ∃ p, s.ps[j]? = some p := ⟨_, List.getElem?_eq_getElem (by rw [← HM.out]; exact hjm)⟩
          have hbt := busy_take hp
          have HG := Lib.hid hg
          have HB := Lib.hid hB
          have HFr := Lib.hid hf
          have HZ := Lib.hid hZ
          have HBT := Lib.hid hbt
          have he : Blk (wr.alloc (.cells #[.string ⟨#[]⟩, .int .i64 0, .bool false] 195)) wr.heap.size 195 #[.string ⟨#[]⟩, .int .i64 0, .bool false] := Blk.new wr _ _
          have hP := Hr2.out.plc hp
          have kH : ∀ w2, Chg (fun k _ => wr.heap.size ≤ k) wr w2 → Below w.heap.size w w2 ∧ GSl kC 1 9 w2 A2 cc2 Z := fun w2 kk => ⟨HB.out.trans (kk.below HB.out.size fun a i ha hle => by have := HB.out.size; omega), HG.out.chg kk kC_len fun a i ha hle => by have := slFp_lt HG.out (slFp_len HG.out ha); omega⟩
          have KH := Lib.hid kH
          clear hg hB hf hZ hbt hp kH
          cases p with
          | none =>
            have y0 : wr.cell? ⟨gp, j * 3, none⟩ = some (.string ⟨#[]⟩) := by have := (hP 0 _ rfl).1; rwa [Nat.add_zero] at this
            have y1 : wr.cell? ⟨gp, j * 3 + 1, none⟩ = some (.int .i64 0) := (hP 1 _ rfl).1
            have y2 : wr.cell? ⟨gp, j * 3 + 2, none⟩ = some (.bool false) := (hP 2 _ rfl).1
            have hone : (#[.string ⟨#[]⟩, .int .i64 0, .bool false] : Array Value).all (·.oneCell') = true := by simp [Value.oneCell']
            clear hP
            have hZ' : I ++ (s.ps.take (j + 1)).filterMap busyK = Z := by rw [HBT.out, HZ.out]; simp [busyK]
            go_wp2_with (first
              | ((with_reducible refine wpList_store_blk rfl 195 (.tmp 7) (.tmp 37) rfl wr.heap.size 195 #[.string ⟨#[]⟩, .int .i64 0, .bool false] #[.string ⟨#[]⟩, .int .i64 0, .bool false] ?hb rfl rfl (plSzz (.string ⟨#[]⟩) (.int .i64 0) (.bool false)) (sizeP (.string ⟨#[]⟩) (.int .i64 0) (.bool false) (.string ⟨#[]⟩) (.int .i64 0) (.bool false)) hone ?_); (case hb => exact he); intro w2 hb2 hg2 hs2; have u2 := hb2.cell 2; have u1 := hb2.cell 1; have K2 := Lib.hid ((Chg.alloc (fun k _ => wr.heap.size ≤ k) wr _).trans (Chg.of_row (F := fun k _ => wr.heap.size ≤ k) hg2 he hb2 rfl fun _ => Nat.le_refl _) fun _ _ _ h => h)))
            go_roundw
            case rel => exact ⟨j + 1, A2, cc2, by omega, by go_num, by rw [hZ'], by rw [hZ']; exact (KH.out _ K2.out).2, (KH.out _ K2.out).1, HFr.out⟩
            case measure => simp [intOf]; omega
          | some x =>
            have y0 : wr.cell? ⟨gp, j * 3, none⟩ = some (.string (nameB x.1)) := by have := (hP 0 _ rfl).1; rwa [Nat.add_zero] at this
            have y1 : wr.cell? ⟨gp, j * 3 + 1, none⟩ = some (.int .i64 x.2) := (hP 1 _ rfl).1
            have y2 : wr.cell? ⟨gp, j * 3 + 2, none⟩ = some (.bool true) := (hP 2 _ rfl).1
            have hone : (#[.string (nameB x.1), .int .i64 x.2, .bool true] : Array Value).all (·.oneCell') = true := by simp [Value.oneCell']
            clear hP
            by_cases hr : 0 < x.2
            · have hZ' : I ++ (s.ps.take (j + 1)).filterMap busyK = Z ++ [x.1] := by rw [HBT.out, HZ.out]; simp [busyK, hr]
              go_wp2_with (first
                | ((with_reducible refine wpList_store_blk rfl 195 (.tmp 7) (.tmp 37) rfl wr.heap.size 195 #[.string ⟨#[]⟩, .int .i64 0, .bool false] #[.string (nameB x.1), .int .i64 x.2, .bool true] ?hb rfl rfl (plSzz (.string (nameB x.1)) (.int .i64 x.2) (.bool true)) (sizeP (.string ⟨#[]⟩) (.int .i64 0) (.bool false) (.string (nameB x.1)) (.int .i64 x.2) (.bool true)) hone ?_); (case hb => exact he); intro w2 hb2 hg2 hs2; have u2 := hb2.cell 2; have u1 := hb2.cell 1; have u0 := hb2.cell 0; have K2 := Lib.hid ((Chg.alloc (fun k _ => wr.heap.size ≤ k) wr _).trans (Chg.of_row (F := fun k _ => wr.heap.size ≤ k) hg2 he hb2 rfl fun _ => Nat.le_refl _) fun _ _ _ h => h); have G2 := (KH.out _ K2.out).2; have hw2 := Lib.hid (show w2.heap.size = wr.heap.size + 1 by rw [hs2]; simp); clear hs2)
                | (at_builtin; refine wpList_appendG kTy (by decide) kC_len kC_one rfl (.tmp 45) (.tmp 48) rfl A2 cc2 Z rfl (G2.chg (Chg.alloc (fun k _ => w2.heap.size ≤ k) w2 (.cells (kC x.1).toArray 9)) kC_len fun j i hj hle => by have := slFp_lt G2 (slFp_len G2 hj); omega) (some ⟨w2.heap.size, 0, none⟩) 1 [x.1] rfl (RdS.new1 kC 1 w2 9 x.1) (by simp only [maxLen, List.length_singleton]; omega) (by simp only [List.length_singleton]; omega) ?_; intro A4 c4 w4 g4 k4 q4))
              have f4 : ∀ j i, slFp 1 A4 0 c4 j i → w.heap.size ≤ j := fun j i hj => by
                rcases q4 with ⟨rfl, rfl⟩ | ⟨g', rfl, hg'⟩
                · exact HFr.out j i hj
                · obtain ⟨o', e, _⟩ := hj; cases e; have := HB.out.size; have := hw2.out; simp at hg'; omega
              have B4 : Below w.heap.size w w4 := ((KH.out _ K2.out).1.alloc (by have := HB.out.size; have := hw2.out; omega) _).trans (k4.below (by have := HB.out.size; have := hw2.out; simp; omega) fun j i hj hs => by have := HFr.out j i (slFp_zero hs); omega)
              rw [← hZ'] at g4
              go_roundw
              case rel => exact ⟨j + 1, A4, c4, by omega, by go_num, by rw [hZ', List.length_append]; rfl, g4, B4, f4⟩
              case measure => simp [intOf]; omega
            · have hZ' : I ++ (s.ps.take (j + 1)).filterMap busyK = Z := by rw [HBT.out, HZ.out]; simp [busyK, hr]
              go_wp2_with (first
                | ((with_reducible refine wpList_store_blk rfl 195 (.tmp 7) (.tmp 37) rfl wr.heap.size 195 #[.string ⟨#[]⟩, .int .i64 0, .bool false] #[.string (nameB x.1), .int .i64 x.2, .bool true] ?hb rfl rfl (plSzz (.string (nameB x.1)) (.int .i64 x.2) (.bool true)) (sizeP (.string ⟨#[]⟩) (.int .i64 0) (.bool false) (.string (nameB x.1)) (.int .i64 x.2) (.bool true)) hone ?_); (case hb => exact he); intro w2 hb2 hg2 hs2; have u2 := hb2.cell 2; have u1 := hb2.cell 1; have K2 := Lib.hid ((Chg.alloc (fun k _ => wr.heap.size ≤ k) wr _).trans (Chg.of_row (F := fun k _ => wr.heap.size ≤ k) hg2 he hb2 rfl fun _ => Nat.le_refl _) fun _ _ _ h => h)))
              go_roundw
              case rel => exact ⟨j + 1, A2, cc2, by omega, by go_num, by rw [hZ'], by rw [hZ']; exact (KH.out _ K2.out).2, (KH.out _ K2.out).1, HFr.out⟩
              case measure => simp [intOf]; omega
        · obtain rfl : j = M := by omega
          rw [List.take_of_length_le (by rw [← HM.out]; exact Nat.le_refl _)] at hZ
          have hks : keysS s = Z := by unfold keysS; rw [hZ, HI.out]
          have fin : KeysP w s (.returned (.slice A2 Z.length cc2)) wr := ⟨A2, cc2, by rw [hks], by rw [hks]; exact hg, hB, hf⟩
          have HFi := Lib.hid fin
          clear fin hg hB hf hZ hks
          go_wp2_with fail
          go_ret
          exact HFi.out
end
end Go.Proofs.Ytiidheknlacioaa.KS
