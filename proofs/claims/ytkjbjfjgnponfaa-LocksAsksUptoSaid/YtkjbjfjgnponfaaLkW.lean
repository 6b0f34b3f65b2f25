/- LocksDropIs: Drop is Release, extent by extent. -/
import Derived.Test.YtkjbjfjgnponfaaLkV
namespace Go.Proofs.Ytkjbjfjgnponfaa
open Go.RowKit
set_option linter.unusedSimpArgs false
set_option linter.unusedVariables false
theorem erase_no {l : List Pl} {o : Int} (hn : (l.map (·.1)).Nodup) (hf : 0 ≤ findI l o) : o ∉ (l.eraseIdx (findI l o).toNat).map (·.1) := by
  rw [erase_rm hn hf]
  intro h
  obtain ⟨p, hp, e⟩ := List.mem_map.1 h
  have := (List.mem_filter.1 hp).2
  rw [bne_iff_ne] at this
  exact this e
/-- who left is gone, and does not come in -/
theorem leave_gone {h r : List Pl} {o : Int} (he : Ext h r) : (leaveL h r o = none ∧ o ∉ h.map (·.1) ∧ o ∉ r.map (·.1)) ∨ ∃ q, leaveL h r o = some q ∧ (o ∈ h.map (·.1) ∨ o ∈ r.map (·.1)) ∧ o ∉ q.1.map (·.1) ∧ o ∉ q.2.1.map (·.1) ∧ o ∉ q.2.2.1 := by
  have hnd := he.nod
  rw [List.map_append, List.nodup_append] at hnd
  obtain ⟨n1, n2, n3⟩ := hnd
  have key : ∀ h2 r2 : List Pl, o ∉ h2.map (·.1) → o ∉ r2.map (·.1) → o ∉ (comeL h2 r2).1.map (·.1) ∧ o ∉ (comeL h2 r2).2.1.map (·.1) ∧ o ∉ (comeL h2 r2).2.2 := fun h2 r2 a1 a2 => by
    have e1 := congrArg (List.map (·.1)) (come_app r2 h2)
    rw [List.map_append, List.map_append] at e1
    have hno : o ∉ (comeL h2 r2).1.map (·.1) ++ (comeL h2 r2).2.1.map (·.1) := by
      rw [e1, List.mem_append]
      exact fun h => h.elim a1 a2
    rw [List.mem_append] at hno
    refine ⟨fun h => hno (.inl h), fun h => hno (.inr h), fun h => a2 ?_⟩
    rw [← come_owners r2 h2]
    exact List.mem_append_left _ h
  unfold leaveL
  by_cases h1 : 0 ≤ findI h o
  · rw [if_pos h1]
    have hm := findI_mem.1 h1
    have k := key (h.eraseIdx (findI h o).toNat) r (erase_no n1 h1) (fun h2 => n3 o hm o h2 rfl)
    exact .inr ⟨_, rfl, .inl hm, k.1, k.2.1, k.2.2⟩
  · rw [if_neg h1]
    have hno : o ∉ h.map (·.1) := fun h2 => h1 (findI_mem.2 h2)
    by_cases h2 : 0 ≤ findI r o
    · rw [if_pos h2]
      have k := key h (r.eraseIdx (findI r o).toNat) hno (erase_no n2 h2)
      exact .inr ⟨_, rfl, .inr (findI_mem.1 h2), k.1, k.2.1, k.2.2⟩
    · rw [if_neg h2]
      exact .inl ⟨rfl, hno, fun h3 => h2 (findI_mem.2 h3)⟩
def dropSome (n : Nat) (o : Int) : Nat → (Nat → List Pl) → Int → Bool
  | 0, _, _ => false
  | k + 1, L, wait => dropSome n o k L wait || ((relT n (dropN n o k L wait).1 (dropN n o k L wait).2.1 (k : Int) o).2.2.2 == 0)
theorem rel_two {n x : Nat} {L : Nat → List Pl} {wait o : Int} (hx : x < n) (hg : Good n L) :
    ((relT n L wait (x : Int) o).2.2.2 = 92 ∧ relT n L wait (x : Int) o = (L, wait, [], 92) ∧ o ∉ (L (x * 2)).map (·.1) ∧ o ∉ (L (x * 2 + 1)).map (·.1)) ∨
    ((relT n L wait (x : Int) o).2.2.2 = 0 ∧ (o ∈ (L (x * 2)).map (·.1) ∨ o ∈ (L (x * 2 + 1)).map (·.1)) ∧ o ∉ ((relT n L wait (x : Int) o).1 (x * 2)).map (·.1) ∧ o ∉ ((relT n L wait (x : Int) o).1 (x * 2 + 1)).map (·.1) ∧ o ∉ (relT n L wait (x : Int) o).2.2.1) := by
  rw [relT_at hx]
  rcases leave_gone (o := o) (hg x hx) with ⟨h1, h2, h3⟩ | ⟨q, h1, h2, h3, h4, h5⟩
  · rw [h1]
    exact .inl ⟨rfl, rfl, h2, h3⟩
  · rw [h1]
    refine .inr ⟨rfl, h2, ?_, ?_, h5⟩
    · dsimp only; rw [upd2_h]; exact h3
    · dsimp only; rw [upd2_r]; exact h4
theorem drop_gone {n : Nat} {L : Nat → List Pl} {wait o : Int} (hg : Good n L) : ∀ k, k ≤ n → o ∉ (dropN n o k L wait).2.2 ∧ (∀ x, x < k → o ∉ ((dropN n o k L wait).1 (x * 2)).map (·.1) ∧ o ∉ ((dropN n o k L wait).1 (x * 2 + 1)).map (·.1)) ∧ (∀ x, k ≤ x → (dropN n o k L wait).1 (x * 2) = L (x * 2) ∧ (dropN n o k L wait).1 (x * 2 + 1) = L (x * 2 + 1)) ∧ (dropSome n o k L wait = false → dropN n o k L wait = (L, wait, [])) ∧ (∀ x, x < k → (o ∈ (L (x * 2)).map (·.1) ∨ o ∈ (L (x * 2 + 1)).map (·.1)) → dropSome n o k L wait = true)
  | 0, _ => ⟨by simp [dropN], fun x h => by omega, fun _ _ => ⟨rfl, rfl⟩, fun _ => rfl, fun x h => by omega⟩
  | k + 1, hk => by
    obtain ⟨d1, d2, d3, d4, d5⟩ := drop_gone (wait := wait) (o := o) hg k (by omega)
    have hg2 : Good n (dropN n o k L wait).1 := drop_good hg k
    obtain ⟨e1, e2⟩ := d3 k (Nat.le_refl _)
    have far : ∀ x, x ≠ k → (dropN n o (k + 1) L wait).1 (x * 2) = (dropN n o k L wait).1 (x * 2) ∧ (dropN n o (k + 1) L wait).1 (x * 2 + 1) = (dropN n o k L wait).1 (x * 2 + 1) := fun x hx => rel_far (n := n) (x := x) (fun e => hx (by omega))
    rcases rel_two (wait := (dropN n o k L wait).2.1) (o := o) (show k < n by omega) hg2 with ⟨h1, h2, h3, h4⟩ | ⟨h1, h2, h3, h4, h5⟩
    · have hsame : dropN n o (k + 1) L wait = dropN n o k L wait := by
        show ((relT n (dropN n o k L wait).1 (dropN n o k L wait).2.1 (k : Int) o).1, (relT n (dropN n o k L wait).1 (dropN n o k L wait).2.1 (k : Int) o).2.1, (dropN n o k L wait).2.2 ++ (relT n (dropN n o k L wait).1 (dropN n o k L wait).2.1 (k : Int) o).2.2.1) = _
        rw [h2]
        dsimp only
        rw [List.append_nil]
      have hsm : dropSome n o (k + 1) L wait = dropSome n o k L wait := by
        show (dropSome n o k L wait || ((relT n (dropN n o k L wait).1 (dropN n o k L wait).2.1 (k : Int) o).2.2.2 == 0)) = _
        rw [h1]
        simp
      rw [hsame, hsm]
      refine ⟨d1, fun x hx => ?_, fun x hx => d3 x (by omega), d4, fun x hx hm => ?_⟩
      · by_cases e : x = k
        · subst e; exact ⟨h3, h4⟩
        · exact d2 x (by omega)
      · by_cases e : x = k
        · subst e
          rw [e1] at h3
          rw [e2] at h4
          exact absurd hm (fun h => h.elim h3 h4)
        · exact d5 x (by omega) hm
    · have hsm : dropSome n o (k + 1) L wait = true := by
        show (dropSome n o k L wait || ((relT n (dropN n o k L wait).1 (dropN n o k L wait).2.1 (k : Int) o).2.2.2 == 0)) = _
        rw [h1]
        simp
      refine ⟨?_, fun x hx => ?_, fun x hx => ?_, (fun h => by rw [hsm] at h; cases h), fun _ _ _ => hsm⟩
      · show o ∉ (dropN n o k L wait).2.2 ++ (relT n (dropN n o k L wait).1 (dropN n o k L wait).2.1 (k : Int) o).2.2.1
        rw [List.mem_append]
        exact fun h => h.elim d1 h5
      · by_cases e : x = k
        · subst e; exact ⟨h3, h4⟩
        · rw [(far x e).1, (far x e).2]; exact d2 x (by omega)
      · rw [(far x (by omega)).1, (far x (by omega)).2]; exact d3 x (by omega)
theorem acq_last {n x : Nat} {L : Nat → List Pl} {wait most owner : Int} (hx : x < n) :
    (owner ∈ ((acqT n L wait most (x : Int) 1 owner).1 (x * 2)).map (·.1) ∨ owner ∈ ((acqT n L wait most (x : Int) 1 owner).1 (x * 2 + 1)).map (·.1)) ∨ most ≤ (acqT n L wait most (x : Int) 1 owner).2.1 := by
  rw [acq_at hx (.inl rfl) rfl]
  dsimp only
  rw [upd2_h, upd2_r]
  unfold acqL
  split
  · next h1 => exact .inl (h1.imp findI_mem.1 findI_mem.1)
  · split
    · exact .inl (.inl (by simp))
    · split
      · right; dsimp only; omega
      · exact .inl (.inr (by simp))
/-- two tables side by side -/
structure Twin (w wr : World) (Ta Ea Tb Eb n : Nat) (m : Int) (Va Vb : Nat → Value) (La Lb : Nat → List Pl) (wa wb : Int) : Prop where
  ta : TabS w.heap.size wr Ta Ea n 0 m wa Va La
  tb : TabS w.heap.size wr Tb Eb n 0 m wb Vb Lb
  dj : ∀ k, Fp Ta Ea n Va k → ¬ Fp Tb Eb n Vb k
  bel : Below w.heap.size w wr
section
variable {w wr wr' : World} {Ta Ea Tb Eb n : Nat} {m : Int} {Va Vb V' : Nat → Value} {La Lb L' : Nat → List Pl} {wa wb w1 : Int}
theorem Twin.below (h : Twin w wr Ta Ea Tb Eb n m Va Vb La Lb wa wb) (hB : Below wr.heap.size wr wr') : Twin w wr' Ta Ea Tb Eb n m Va Vb La Lb wa wb :=
  ⟨h.ta.below hB, h.tb.below hB, h.dj, h.bel.trans (hB.mono h.bel.size)⟩
theorem Twin.stepA (h : Twin w wr Ta Ea Tb Eb n m Va Vb La Lb wa wb) (hT : TabS w.heap.size wr' Ta Ea n 0 m w1 V' L') (hC : Chg (fun k _ => Fp Ta Ea n Va k) wr wr') (hF : ∀ k, Fp Ta Ea n V' k → Fp Ta Ea n Va k ∨ wr.heap.size ≤ k) : Twin w wr' Ta Ea Tb Eb n m V' Vb L' Lb w1 wb := by
  refine ⟨hT, h.tb.keep hC fun k hk i hf => h.dj k hf hk, fun k hk hb => ?_, h.bel.trans (h.ta.belM hC)⟩
  rcases hF k hk with h1 | h1
  · exact h.dj k h1 hb
  · have := (h.tb.fpLt hb).2; omega
theorem Twin.stepB (h : Twin w wr Ta Ea Tb Eb n m Va Vb La Lb wa wb) (hT : TabS w.heap.size wr' Tb Eb n 0 m w1 V' L') (hC : Chg (fun k _ => Fp Tb Eb n Vb k) wr wr') (hF : ∀ k, Fp Tb Eb n V' k → Fp Tb Eb n Vb k ∨ wr.heap.size ≤ k) : Twin w wr' Ta Ea Tb Eb n m Va V' La L' wa w1 := by
  refine ⟨h.ta.keep hC fun k hk i hf => h.dj k hk hf, hT, fun k hk hb => ?_, h.bel.trans (h.tb.belM hC)⟩
  rcases hF k hb with h1 | h1
  · exact h.dj k hk h1
  · have := (h.ta.fpLt hk).2; omega
/-- a list of numbers has grown -/
theorem Twin.grew {A : Option Addr} {c k : Nat} {l : List Int} (h : Twin w wr Ta Ea Tb Eb n m Va Vb La Lb wa wb) (hk : KO wr A c l) (hC : Chg (slFp 1 A k c) wr wr') (hb : ∀ a, A = some a → w.heap.size ≤ a.block) : Twin w wr' Ta Ea Tb Eb n m Va Vb La Lb wa wb :=
  ⟨h.ta.grew hk hC, h.tb.grew hk hC, h.dj, h.bel.trans (hC.below h.bel.size fun k i hk hf => by
    obtain ⟨a, ea, e⟩ := slFp_blk hf
    have := hb a ea
    omega)⟩
end
theorem list0 {n x : Nat} {L : Nat → List Pl} (hx : x < n) : listT n L (x : Int) 0 = ((L (x * 2)).map (·.1), modeOf (L (x * 2)) 0, 0) := by
  unfold listT
  rw [if_neg (show ¬ ¬ (0 ≤ (x : Int) ∧ (x : Int) < (n : Int)) by omega), if_neg (by decide), Int.toNat_natCast]
theorem list1 {n x : Nat} {L : Nat → List Pl} (hx : x < n) : listT n L (x : Int) 1 = ((L (x * 2 + 1)).map (·.1), 1, 0) := by
  unfold listT
  rw [if_neg (show ¬ ¬ (0 ≤ (x : Int) ∧ (x : Int) < (n : Int)) by omega), if_pos rfl, Int.toNat_natCast]
set_option maxRecDepth 20000 in
set_option maxHeartbeats 16000000 in
theorem dropis_any (a b owner : Int) (A : Option Addr) (cap sl : Nat) (ops : List O5) (w : World) (hsl : ops.length = sl) (hsm : sl ≤ 3600000000000) (hr : RdS encO5 5 w A ops) :
    Calls Try.prog 6 #[.agg #[.int .i64 a, .int .i64 b], .slice A sl cap, .int .i64 owner] w fun e w' => e = .returned (.bool true) ∧ Below w.heap.size w w' := by
  have HR := Lib.hid hr
  have HSL := Lib.hid hsl
  have B0 := Lib.hid ((Below.refl w.heap.size w).alloc (Nat.le_refl _) (.cells #[.int .i64 a, .int .i64 b] 23))
  have b0 := Blk.new w 23 #[.int .i64 a, .int .i64 b]
  have g0 := may_any a b (w.alloc (.cells #[.int .i64 a, .int .i64 b] 23))
  obtain ⟨mb, hmb⟩ : ∃ mb, mb = (decide (1 ≤ a) && decide (a ≤ 4096) && decide (0 ≤ b) && decide (b ≤ 512)) := ⟨_, rfl⟩
  rw [← hmb] at g0
  have G0 := Lib.hid g0
  have HMB := Lib.hid hmb
  have BK := Lib.hid b0
  clear hr hsl g0 hmb b0
  go_enter Try.func6, Try.ntmps6
  go_wp2_with fail
  refine G0.out.mono ?_
  rintro e w1 ⟨rfl, hB1⟩
  have BK1 := Lib.hid (BK.out.below hB1 BK.out.lt)
  have B1 := Lib.hid (B0.out.trans (hB1.mono B0.out.size))
  have m0 : w1.cell? ⟨w.heap.size, 0, none⟩ = some (.int .i64 a) := BK1.out.cell 0
  have m1 : w1.cell? ⟨w.heap.size, 1, none⟩ = some (.int .i64 b) := BK1.out.cell 1
  clear G0 hB1 BK B0
  cases mb with
  | false =>
    go_wp2
    go_ret
    exact ⟨rfl, B1.out⟩
  | true =>
  have hm2 : 1 ≤ a ∧ a ≤ 4096 ∧ 0 ≤ b ∧ b ≤ 512 := by have := HMB.out; simp at this; omega
  obtain ⟨n, rfl⟩ : ∃ n : Nat, a = (n : Int) := ⟨a.toNat, by omega⟩
  have hn1 : 1 ≤ n := by omega
  have hn2 : n ≤ 4096 := by omega
  have hb0 : 0 ≤ b := hm2.2.2.1
  have hb5 : b ≤ 512 := hm2.2.2.2
  have g1 := Lib.hid (table_ok n b w1 hn1 hn2 hb0 hb5)
  clear hm2
  go_wp2_with fail
  refine g1.out.mono ?_
  rintro e w2 ⟨Ta, Ea, rfl, hTa, hB2⟩
  have B2 := Lib.hid (B1.out.trans (hB2.mono B1.out.size))
  have T2 := Lib.hid (hTa.lower (b' := w.heap.size) B1.out.size)
  have BK2 := Lib.hid (BK1.out.below hB2 BK1.out.lt)
  have m0 : w2.cell? ⟨w.heap.size, 0, none⟩ = some (.int .i64 (n : Int)) := BK2.out.cell 0
  have m1 : w2.cell? ⟨w.heap.size, 1, none⟩ = some (.int .i64 b) := BK2.out.cell 1
  have g2 := Lib.hid (table_ok n b w2 hn1 hn2 hb0 hb5)
  clear g1 hTa hB2 BK1 B1
  go_wp2_with fail
  refine g2.out.mono ?_
  rintro e w3 ⟨Tb, Eb, rfl, hTb, hB3⟩
  have W3 := Lib.hid (show Twin w w3 Ta Ea Tb Eb n b (fun _ => nilS) (fun _ => nilS) (fun _ => []) (fun _ => []) 0 0 from
    ⟨T2.out.below hB3, hTb.lower (b' := w.heap.size) B2.out.size, fun k hk hk2 => by
      have h1 := (T2.out.fpLt hk).2
      have h2 := (hTb.fpLt hk2).1
      omega, B2.out.trans (hB3.mono B2.out.size)⟩)
  have BK3 := Lib.hid (BK2.out.below hB3 BK2.out.lt)
  have I3 := Lib.hid (Inv.zero n)
  have G3 := Lib.hid (Good.nil_ n)
  clear g2 hTb hB3 T2 B2 BK2 m0 m1
  go_wp2_with fail
  go_loopw [10] (fun t10 wr => ∃ (i : Nat) (Va Vb : Nat → Value) (L : Nat → List Pl) (wait : Int), i ≤ sl ∧ t10 = .int .i64 (i : Int) ∧ Hid (Twin w wr Ta Ea Tb Eb n b Va Vb L L wait wait) ∧ Hid (Inv n i L wait) ∧ Hid (Good n L) ∧ wait ≤ b ∧ Hid (Blk wr w.heap.size 23 #[.int .i64 (n : Int), .int .i64 b])) (fun t10 _ => sl - (intOf t10).toNat)
  case atStart => exact ⟨0, _, _, _, _, Nat.zero_le _, rfl, W3, I3, G3, hb0, BK3⟩
  case round =>
    clear W3 I3 G3 BK3
    obtain ⟨i, Va, Vb, L, wait, hi, rfl, hW, hI, hG, hM, hBK⟩ := hrel
    by_cases hlt : i < sl
    · have hlt' : (i : Int) < (sl : Int) := by omega
      obtain ⟨g, o, s, hA, hg, hx, hc⟩ := (HR.out.below hW.out.bel).at_ (show i < ops.length by rw [HSL.out]; exact hlt)
      subst hA
      obtain ⟨kind, sec, oe, mode, ow⟩ := s
      have y0 : wr.cell? ⟨g, o + i * 5, none⟩ = some (.int .i64 kind) := hc 0 _ rfl
      have y1 : wr.cell? ⟨g, o + i * 5 + 1, none⟩ = some (.bool sec) := hc 1 _ rfl
      have y2 : wr.cell? ⟨g, o + i * 5 + 2, none⟩ = some (.int .i64 oe) := hc 2 _ rfl
      have y3 : wr.cell? ⟨g, o + i * 5 + 3, none⟩ = some (.int .i64 mode) := hc 3 _ rfl
      have y4 : wr.cell? ⟨g, o + i * 5 + 4, none⟩ = some (.int .i64 ow) := hc 4 _ rfl
      have gc := fun w0 V0 T0 E0 h0 => callD_any w.heap.size T0 E0 n i b kind oe mode ow sec V0 wait L w0 h0 hn2 hI.out (by omega) (by omega)
      have I4 := callD_inv (most := b) (kind := kind) (ex := oe) (mode := mode) (owner := ow) hI.out
      have G4 := callD_good (wait := wait) (most := b) (kind := kind) (ex := oe) (mode := mode) (owner := ow) hG.out
      have M4 := callD_most (kind := kind) (ex := oe) (mode := mode) (owner := ow) hI.out hM
      obtain ⟨pc, hpc⟩ : ∃ pc, pc = callD n L wait b kind oe mode ow := ⟨_, rfl⟩
      rw [← hpc] at I4 G4 M4
      simp only [← hpc] at gc
      have GC := Lib.hid gc
      have I4 := Lib.hid I4
      have G4 := Lib.hid G4
      have HX := Lib.hid hx
      clear hx hc gc hpc hI hG hM
      go_wp2_with fail
      refine (GC.out _ _ _ _ hW.out.ta).mono ?_
      rintro e w6 ⟨rfl, V6, hT, hC, hF⟩
      have W6 := Lib.hid (hW.out.stepA hT hC hF)
      have BK6 := Lib.hid (hW.out.ta.keepB hC hBK.out (by decide) (by decide) (by decide))
      clear hT hC hF hW hBK y0 y1 y2 y3 y4
      obtain ⟨g2, o2, hA2, hg2, hc⟩ := (HR.out.below W6.out.bel) i _ HX.out
      cases hA2
      have y0 : w6.cell? ⟨g, o + i * 5, none⟩ = some (.int .i64 kind) := hc 0 _ rfl
      have y1 : w6.cell? ⟨g, o + i * 5 + 1, none⟩ = some (.bool sec) := hc 1 _ rfl
      have y2 : w6.cell? ⟨g, o + i * 5 + 2, none⟩ = some (.int .i64 oe) := hc 2 _ rfl
      have y3 : w6.cell? ⟨g, o + i * 5 + 3, none⟩ = some (.int .i64 mode) := hc 3 _ rfl
      have y4 : w6.cell? ⟨g, o + i * 5 + 4, none⟩ = some (.int .i64 ow) := hc 4 _ rfl
      clear hc
      go_wp2_with fail
      refine (GC.out _ _ _ _ W6.out.tb).mono ?_
      rintro e w7 ⟨rfl, V7, hT, hC, hF⟩
      have W7 := Lib.hid (W6.out.stepB hT hC hF)
      have BK7 := Lib.hid (W6.out.tb.keepB hC BK6.out (by decide) (by decide) (by decide))
      clear hT hC hF W6 BK6 y0 y1 y2 y3 y4 GC
      go_wp2
      go_roundw
      case rel => exact ⟨i + 1, V6, V7, _, _, by omega, by go_num, W7, I4, G4, M4, BK7⟩
      case measure => simp [intOf]; omega
    · obtain rfl : i = sl := by omega
      have hwt0 := hI.out.waits.1
      have m0 : wr.cell? ⟨w.heap.size, 0, none⟩ = some (.int .i64 (n : Int)) := hBK.out.cell 0
      obtain ⟨x, hxn⟩ : ∃ x, n = x + 1 := ⟨n - 1, by omega⟩
      have hxe : (n : Int) - 1 = (x : Int) := by omega
      have hx0 : (0 : Int) ≤ (n : Int) - 1 := by omega
      have ga := fun w0 V0 T0 E0 h0 => acquireM_any w.heap.size T0 E0 n b ((n : Int) - 1) 1 owner V0 wait L w0 h0 hn2 (hI.out.lens4 (by omega)) (by omega)
      have I4 := acq_inv (most := b) (ex := (n : Int) - 1) (mode := 1) (owner := owner) hI.out
      have G4 := acq_good (wait := wait) (most := b) (ex := (n : Int) - 1) (mode := 1) (owner := owner) hG.out
      have M4 := acq_most (n := n) (L := L) (ex := (n : Int) - 1) (mode := 1) (owner := owner) hM
      have A4 := acq_last (L := L) (wait := wait) (most := b) (owner := owner) (show x < n by omega)
      rw [← hxe] at A4
      obtain ⟨pa, hpa⟩ : ∃ pa, pa = acqT n L wait b ((n : Int) - 1) 1 owner := ⟨_, rfl⟩
      rw [← hpa] at I4 G4 M4 A4
      simp only [← hpa] at ga
      have GA := Lib.hid ga
      have I4 := Lib.hid I4
      have G4 := Lib.hid G4
      have A4 := Lib.hid A4
      clear ga hpa hI hG hM
      have HXE := Lib.hid hxe
      have HXN := Lib.hid hxn
      clear hxe hxn
      go_wp2_with fail
      refine (GA.out _ _ _ _ hW.out.ta).mono ?_
      rintro e w4 ⟨rfl, V4, hT, hC, hF⟩
      have W4 := Lib.hid (hW.out.stepA hT hC hF)
      have BK4 := Lib.hid (hW.out.ta.keepB hC hBK.out (by decide) (by decide) (by decide))
      have m0 : w4.cell? ⟨w.heap.size, 0, none⟩ = some (.int .i64 (n : Int)) := BK4.out.cell 0
      clear hT hC hF hW hBK
      go_wp2_with fail
      refine (GA.out _ _ _ _ W4.out.tb).mono ?_
      rintro e w5 ⟨rfl, V5, hT, hC, hF⟩
      have W5 := Lib.hid (W4.out.stepB hT hC hF)
      have BK5 := Lib.hid (W4.out.tb.keepB hC BK4.out (by decide) (by decide) (by decide))
      clear hT hC hF W4 BK4 GA
      obtain ⟨D, hD⟩ : ∃ D, D = dropN n owner n pa.1 pa.2.1 := ⟨_, rfl⟩
      obtain ⟨xn, hxl⟩ : ∃ k, k = D.2.2.length := ⟨_, rfl⟩
      have gd := dropO_any w.heap.size Ta Ea n (i + 1) b owner V4 pa.2.1 pa.1 w5 W5.out.ta hn2 I4.out (by omega) (by omega)
      rw [← hD, ← hxl] at gd
      have GD := Lib.hid gd
      have DG := Lib.hid (drop_gone (wait := pa.2.1) (o := owner) G4.out n (Nat.le_refl n))
      have DI := Lib.hid (drop_inv (o := owner) I4.out n)
      have DQ := Lib.hid (drop_good (wait := pa.2.1) (owner := owner) G4.out n)
      rw [← hD] at DG DI DQ
      have HD := Lib.hid hD
      have HXL := Lib.hid hxl
      clear gd hD hxl
      go_wp2_with fail
      refine GD.out.mono ?_
      rintro e w6 ⟨A1, c1, rfl, hK1, hb1, V6, hT, hC, hF⟩
      have W6 := Lib.hid (W5.out.stepA hT hC hF)
      have BK6 := Lib.hid (W5.out.ta.keepB hC BK5.out (by decide) (by decide) (by decide))
      have K1 := Lib.hid hK1
      clear hT hC hF W5 BK5 GD hK1 hb1
      go_wp2_with fail
      go_loopw [12, 13, 14] (fun t12 t13 t14 wr => ∃ (k : Nat) (Vb : Nat → Value) (Ay : Option Addr) (yn yc : Nat), k ≤ n ∧ t14 = .int .i64 (k : Int) ∧ t13 = .bool (dropSome n owner k pa.1 pa.2.1) ∧ t12 = .slice Ay yn yc ∧ Hid (Twin w wr Ta Ea Tb Eb n b V6 Vb D.1 (dropN n owner k pa.1 pa.2.1).1 D.2.1 (dropN n owner k pa.1 pa.2.1).2.1) ∧ Hid (KO wr A1 c1 D.2.2) ∧ Hid (KO wr Ay yc (dropN n owner k pa.1 pa.2.1).2.2) ∧ Hid ((dropN n owner k pa.1 pa.2.1).2.2.length = yn) ∧
        Hid (∀ p, Ay = some p → w.heap.size ≤ p.block ∧ ∀ q, A1 = some q → p.block ≠ q.block) ∧ Hid (Blk wr w.heap.size 23 #[.int .i64 (n : Int), .int .i64 b])) (fun _ _ t14 _ => n - (intOf t14).toNat)
      case atStart => exact ⟨0, _, none, 0, 0, Nat.zero_le _, rfl, rfl, rfl, W6, K1, Lib.hid ⟨GSl.nil_, .inl rfl⟩, Lib.hid rfl, Lib.hid (fun _ h => by cases h), BK6⟩
      case round =>
        clear W6 K1 BK6
        obtain ⟨k, Vb, Ay, yn, yc, hk, rfl, rfl, rfl, hW, hK1, hKy, hyn, hsep, hBK⟩ := hrel
        have m0 : wr.cell? ⟨w.heap.size, 0, none⟩ = some (.int .i64 (n : Int)) := hBK.out.cell 0
        by_cases hlk : k < n
        · have hlk' : (k : Int) < (n : Int) := by omega
          obtain ⟨d1, d2⟩ := drop_inv (o := owner) I4.out k
          have dg := drop_good (wait := pa.2.1) (owner := owner) G4.out k
          have e1 : dropN n owner (k + 1) pa.1 pa.2.1 = ((relT n (dropN n owner k pa.1 pa.2.1).1 (dropN n owner k pa.1 pa.2.1).2.1 (k : Int) owner).1, (relT n (dropN n owner k pa.1 pa.2.1).1 (dropN n owner k pa.1 pa.2.1).2.1 (k : Int) owner).2.1, (dropN n owner k pa.1 pa.2.1).2.2 ++ (relT n (dropN n owner k pa.1 pa.2.1).1 (dropN n owner k pa.1 pa.2.1).2.1 (k : Int) owner).2.2.1) := rfl
          have e2 : dropSome n owner (k + 1) pa.1 pa.2.1 = (dropSome n owner k pa.1 pa.2.1 || ((relT n (dropN n owner k pa.1 pa.2.1).1 (dropN n owner k pa.1 pa.2.1).2.1 (k : Int) owner).2.2.2 == 0)) := rfl
          have d4 := (drop_inv (o := owner) I4.out (k + 1)).2
          rw [e1] at d4
          have E1 := Lib.hid e1
          have E2 := Lib.hid e2
          clear e1 e2
          obtain ⟨P, hP⟩ : ∃ P, P = dropN n owner k pa.1 pa.2.1 := ⟨_, rfl⟩
          obtain ⟨sm, hsm2⟩ : ∃ sm, sm = dropSome n owner k pa.1 pa.2.1 := ⟨_, rfl⟩
          rw [← hP] at hW hKy hyn d1 d2 d4 dg E1 E2
          rw [← hsm2] at E2 ⊢
          have b4 := d1.waits
          have pw : P.2.1 ≤ b := by omega
          have gr := releaseO_any w.heap.size Tb Eb n b (k : Int) owner Vb P.2.1 P.1 wr hW.out.tb hn2 (d1.lens4 (by omega)) (by omega) (d1.row6 (by omega))
          obtain ⟨R, hR⟩ : ∃ R, R = relT n P.1 P.2.1 (k : Int) owner := ⟨_, rfl⟩
          have hcase := rel_two (wait := P.2.1) (o := owner) hlk dg
          rw [← hR] at gr hcase E1 E2 d4
          obtain ⟨gn, hgn⟩ : ∃ k, k = R.2.2.1.length := ⟨_, rfl⟩
          have hyg : yn + gn ≤ 512 := by
            have h1 : (P.2.2 ++ R.2.2.1).length = yn + gn := by rw [List.length_append, hyn.out, hgn]
            have h2 := (rel_inv (ex := (k : Int)) (owner := owner) d1).waits.1
            rw [← hR] at h2
            dsimp only at d4
            rw [h1] at d4
            omega
          have HGN := Lib.hid hgn
          rcases hcase with ⟨f1, f2, _, _⟩ | ⟨f1, _, _, _, _⟩
          · rw [f1, ← hgn] at gr
            have GR := Lib.hid gr
            have F1 := Lib.hid f1
            have F2 := Lib.hid f2
            clear gr hP hsm2 hR f1 f2 d1 d2 d4 dg b4 hgn
            go_wp2_with fail
            refine GR.out.mono ?_
            rintro e w7 ⟨A5, c5, rfl, _, _, V7, hT, hC, hF⟩
            have W7 := hW.out.stepB hT hC hF
            have BK7 := Lib.hid (hW.out.tb.keepB hC hBK.out (by decide) (by decide) (by decide))
            have K17 := Lib.hid (hK1.out.keep hW.out.tb hC)
            have Ky7 := Lib.hid (hKy.out.keep hW.out.tb hC)
            rw [F2.out] at W7 E1 E2
            rw [F2.out] at HGN
            have W7 := Lib.hid W7
            clear hT hC hF hW hBK GR hK1 hKy m0
            go_wp2_with (go_at_call 18; (with_reducible refine (num_any _ _).mono ?_); rintro e w' ⟨rfl, rfl⟩)
            go_roundw
            case rel => exact ⟨k + 1, V7, Ay, yn, yc, by omega, by go_num, by rw [E2.out]; simp, rfl, by rw [E1.out]; exact W7, K17, by rw [E1.out]; dsimp only; rw [List.append_nil]; exact Ky7, by rw [E1.out]; dsimp only; rw [List.append_nil]; exact hyn, hsep, BK7⟩
            case measure => simp [intOf]; omega
          · rw [f1, ← hgn] at gr
            have GR := Lib.hid gr
            rw [f1] at E2
            clear gr hP hsm2 hR f1 d1 d2 d4 dg b4 hgn
            go_wp2_with fail
            refine GR.out.mono ?_
            rintro e w7 ⟨A5, c5, rfl, hK5, _, V7, hT, hC, hF⟩
            have W7 := Lib.hid (hW.out.stepB hT hC hF)
            have BK7 := Lib.hid (hW.out.tb.keepB hC hBK.out (by decide) (by decide) (by decide))
            have K17 := Lib.hid (hK1.out.keep hW.out.tb hC)
            have Ky7 := Lib.hid (hKy.out.keep hW.out.tb hC)
            have K5 := Lib.hid hK5
            clear hT hC hF hW hBK GR hK1 hKy m0 hK5
            go_wp2_with fail
            refine (num_any 0 w7).mono ?_
            rintro e w' ⟨rfl, rfl⟩
            go_wp2_with (
              at_builtin
              refine wpList_appendG intTy (by decide) enc1_len enc1_one rfl (.tmp 91) (.tmp 92) rfl Ay yc P.2.2 (by rw [hyn.out]; rfl) Ky7.out.1 A5 c5 R.2.2.1 (by rw [← HGN.out]; rfl) K5.out.1.rds (by rw [hyn.out, ← HGN.out]; simp only [maxLen]; omega) (by rw [hyn.out, ← HGN.out]; omega) ?_
              intro A6 c6 w8 h8 k8 q8
              have hlen8 : (P.2.2 ++ R.2.2.1).length = yn + gn := by rw [List.length_append, hyn.out, ← HGN.out]
              rw [hlen8]
              have HL8 := Lib.hid hlen8
              have hbA := fun p ep => (hsep.out p ep).1
              have W8 := Lib.hid (W7.out.grew Ky7.out k8 hbA)
              have K18 := Lib.hid (K17.out.grew (fun p q ep eq => (hsep.out p ep).2 q eq) k8)
              have BK8 := Lib.hid (k8.blk BK7.out fun i hf => by
                obtain ⟨a, ea, e⟩ := slFp_blk hf
                obtain ⟨cs, hb⟩ := Ky7.out.blk ea
                exact blk_type_ne hb BK7.out (by decide) e)
              have Ky8 := Lib.hid (show KO w8 A6 c6 (P.2.2 ++ R.2.2.1) from ⟨h8, by
                rcases q8 with ⟨e1, _⟩ | ⟨g, e1, _⟩
                · rw [e1]; exact Ky7.out.2
                · exact .inr ⟨g, e1⟩⟩)
              have hsep8 := Lib.hid (show ∀ p, A6 = some p → w.heap.size ≤ p.block ∧ ∀ q, A1 = some q → p.block ≠ q.block from fun p ep => by
                rcases q8 with ⟨e1, _⟩ | ⟨g, e1, hg⟩
                · rw [e1] at ep; exact hsep.out p ep
                · rw [e1] at ep; cases ep
                  refine ⟨Nat.le_trans W7.out.bel.size hg, fun q eq => ?_⟩
                  have := K17.out.lt eq
                  have hg2 : w7.heap.size ≤ g := hg
                  show g ≠ q.block
                  omega)
              clear h8 k8 q8 hlen8 hbA W7 K17 Ky7 K5 BK7
              )
            go_roundw
            case rel => exact ⟨k + 1, V7, A6, yn + gn, c6, by omega, by go_num, by rw [E2.out]; simp, rfl, by rw [E1.out]; exact W8, K18, by rw [E1.out]; exact Ky8, by rw [E1.out]; exact HL8, hsep8, BK8⟩
            case measure => simp [intOf]; omega
        · obtain rfl : k = n := by omega
          obtain ⟨sm, hsm2⟩ : ∃ sm, sm = dropSome k owner k pa.1 pa.2.1 := ⟨_, rfl⟩
          rw [← HD.out] at hW hKy hyn
          rw [← hsm2] at DG ⊢
          have yne : yn = xn := by rw [← hyn.out, HXL.out]
          subst yne
          have m1 : wr.drew.cell? ⟨w.heap.size, 1, none⟩ = some (.int .i64 b) := hBK.out.cell 1
          have d2 := DI.out.2
          have wd0 := DI.out.1.waits
          have hxb : yn ≤ 512 := by rw [← HXL.out] at d2; omega
          have gs := Lib.hid (same_yes A1 Ay c1 yc yn D.2.2 wr.drew hyn.out (by omega) hK1.out.kept.1 hKy.out.kept.1)
          have WD := Lib.hid (hW.out.below (Below.refl _ _).drew)
          have BKD := Lib.hid (hBK.out.below (Below.refl wr.heap.size wr).drew hBK.out.lt)
          have KD := Lib.hid (hK1.out.below (Below.refl wr.heap.size wr).drew)
          have hst : sm = true ∨ (sm = false ∧ b ≤ D.2.1) := by
            cases hs : sm with
            | true => exact .inl rfl
            | false =>
              right
              refine ⟨rfl, ?_⟩
              rcases A4.out with h1 | h1
              · have h2 := DG.out.2.2.2.2 x (by have := HXN.out; omega) h1
                rw [hs] at h2; cases h2
              · have h2 := DG.out.2.2.2.1 hs
                rw [h2]
                exact h1
          have hno : decide (owner ∈ D.2.2) = false := decide_eq_false DG.out.1
          have HNO := Lib.hid hno
          have DGN := Lib.hid DG.out.2.1
          clear d2 hsm2 hno DG hW hBK hK1 hKy hyn A4 hsep
          go_upto_region 27 with fail
          go_cut [116] (fun t116 wx => t116 = .bool false ∧ ∃ Va, Hid (Twin w wx Ta Ea Tb Eb k b Va Vb D.1 D.1 D.2.1 D.2.1) ∧ Hid (Blk wx w.heap.size 23 #[.int .i64 (k : Int), .int .i64 b]))
          case first =>
            rcases hst with hst | ⟨hst, hst2⟩
            · subst hst
              refine wp_region_noPanic ?_
              refine wp_region_held_drew (S := fun w' => w'.cell? ⟨w.heap.size, 1, none⟩ = some (.int .i64 b)) (by kernel_rfl) (m1) (fun hHeld => ?_)
              refine take_on (i := 0) (some 97) (v := ?vr1) rfl rfl (by kernel_rfl) (by kernel_rfl) (by kernel_rfl) (fun _ _ _ h => h) (by rfl) ?hyr1 (by with_reducible exact hHeld) ?restr1
              case hyr1 => (intro wS hSw; (try dsimp only at hSw); go_simp; try with_reducible rfl)
              try simp only [Act.put, List.setIfInBounds_toArray, List.set_cons_zero, List.set_cons_succ]
              refine take_on (i := 1) (some 98) (v := ?vr2) rfl rfl (by kernel_rfl) (by kernel_rfl) (by kernel_rfl) (fun _ _ _ h => h) (by rfl) ?hyr2 (by with_reducible exact hHeld) ?restr2
              case hyr2 => (intro wS hSw; (try dsimp only at hSw); go_simp; try with_reducible rfl)
              try simp only [Act.put, List.setIfInBounds_toArray, List.set_cons_zero, List.set_cons_succ]
              refine wpAnyH_ready (rs := [2]) (by kernel_rfl) (by simp) ?_
              refine AllReadyH.cons rfl (fun K hK => ?_) AllReadyH.nil
              go_simp
              with_reducible refine gs.out.mono ?_
              rintro e wE ⟨rfl, hBE⟩
              have WE := Lib.hid (WD.out.below hBE)
              have BKE := Lib.hid (BKD.out.below hBE BKD.out.lt)
              have gq := has_any A1 c1 yn D.2.2 owner wE HXL.out.symm (by omega) (KD.out.below hBE).kept.1
              rw [HNO.out] at gq
              have GQ := Lib.hid gq
              have m1e : wE.cell? ⟨w.heap.size, 1, none⟩ = some (.int .i64 b) := BKE.out.cell 1
              clear gs hBE gq
              refine hK.out _ _ (m1e) (fun hHeld => ?_)
              clear hK K
              try simp only [Act.put, List.setIfInBounds_toArray, List.set_cons_zero, List.set_cons_succ]
              refine take_on (i := 3) (some 100) (v := ?vr3) rfl rfl (by kernel_rfl) (by kernel_rfl) (by kernel_rfl) (fun _ _ _ h => h) (by rfl) ?hyr3 (by with_reducible exact hHeld) ?restr3
              case hyr3 => (intro wS hSw; (try dsimp only at hSw); go_simp; try with_reducible rfl)
              try simp only [Act.put, List.setIfInBounds_toArray, List.set_cons_zero, List.set_cons_succ]
              refine take_on (i := 4) (some 101) (v := ?vr4) rfl rfl (by kernel_rfl) (by kernel_rfl) (by kernel_rfl) (fun _ _ _ h => h) (by rfl) ?hyr4 (by with_reducible exact hHeld) ?restr4
              case hyr4 => (intro wS hSw; (try dsimp only at hSw); go_simp; try with_reducible rfl)
              try simp only [Act.put, List.setIfInBounds_toArray, List.set_cons_zero, List.set_cons_succ]
              refine take_on (i := 5) (some 102) (v := ?vr5) rfl rfl (by kernel_rfl) (by kernel_rfl) (by kernel_rfl) (fun _ _ _ h => h) (by rfl) ?hyr5 (by with_reducible exact hHeld) ?restr5
              case hyr5 => (intro wS hSw; (try dsimp only at hSw); go_simp; try with_reducible rfl)
              try simp only [Act.put, List.setIfInBounds_toArray, List.set_cons_zero, List.set_cons_succ]
              refine take_on (i := 6) (some 103) (v := ?vr6) rfl rfl (by kernel_rfl) (by kernel_rfl) (by kernel_rfl) (fun _ _ _ h => h) (by rfl) ?hyr6 (by with_reducible exact hHeld) ?restr6
              case hyr6 => (intro wS hSw; (try dsimp only at hSw); go_simp; try with_reducible rfl)
              try simp only [Act.put, List.setIfInBounds_toArray, List.set_cons_zero, List.set_cons_succ]
              refine wpAnyH_ready (rs := [7]) (by kernel_rfl) (by simp) ?_
              refine AllReadyH.cons rfl (fun K hK => ?_) AllReadyH.nil
              go_simp
              with_reducible refine GQ.out.mono ?_
              rintro e w' ⟨rfl, rfl⟩
              refine hK.out _ _ (m1e) (fun hHeld => ?_)
              clear hK K
              try simp only [Act.put, List.setIfInBounds_toArray, List.set_cons_zero, List.set_cons_succ]
              refine take_on (i := 8) (some 105) (v := ?vr7) rfl rfl (by kernel_rfl) (by kernel_rfl) (by kernel_rfl) (fun _ _ _ h => h) (by rfl) ?hyr7 (by with_reducible exact hHeld) ?restr7
              case hyr7 => (intro wS hSw; (try dsimp only at hSw); go_simp; try with_reducible rfl)
              try simp only [Act.put, List.setIfInBounds_toArray, List.set_cons_zero, List.set_cons_succ]
              refine take_on (i := 9) (some 106) (v := ?vr8) rfl rfl (by kernel_rfl) (by kernel_rfl) (by kernel_rfl) (fun _ _ _ h => h) (by rfl) ?hyr8 (by with_reducible exact hHeld) ?restr8
              case hyr8 => (intro wS hSw; (try dsimp only at hSw); go_simp; try with_reducible rfl)
              try simp only [Act.put, List.setIfInBounds_toArray, List.set_cons_zero, List.set_cons_succ]
              refine take_on (i := 10) (some 107) (v := ?vr9) rfl rfl (by kernel_rfl) (by kernel_rfl) (by kernel_rfl) (fun _ _ _ h => h) (by rfl) ?hyr9 (by with_reducible exact hHeld) ?restr9
              case hyr9 => (intro wS hSw; (try dsimp only at hSw); go_simp; try with_reducible rfl)
              try simp only [Act.put, List.setIfInBounds_toArray, List.set_cons_zero, List.set_cons_succ]
              refine take_on (i := 11) (some 108) (v := ?vr10) rfl rfl (by kernel_rfl) (by kernel_rfl) (by kernel_rfl) (fun _ _ _ h => h) (by rfl) ?hyr10 (by with_reducible exact hHeld) ?restr10
              case hyr10 => (intro wS hSw; (try dsimp only at hSw); go_simp; try with_reducible rfl)
              try simp only [Act.put, List.setIfInBounds_toArray, List.set_cons_zero, List.set_cons_succ]
              refine take_on (i := 12) (some 109) (v := ?vr11) rfl rfl (by kernel_rfl) (by kernel_rfl) (by kernel_rfl) (fun _ _ _ h => h) (by rfl) ?hyr11 (by with_reducible exact hHeld) ?restr11
              case hyr11 => (intro wS hSw; (try dsimp only at hSw); go_simp; try with_reducible rfl)
              try simp only [Act.put, List.setIfInBounds_toArray, List.set_cons_zero, List.set_cons_succ]
              refine take_off (i := 13) (some 110) rfl rfl (by kernel_rfl) (by kernel_rfl) (by kernel_rfl) (fun _ _ _ h => h) (by rfl) (by with_reducible exact hHeld) ?_
              try simp only [Act.put, List.setIfInBounds_toArray, List.set_cons_zero, List.set_cons_succ]
              refine take_off (i := 14) (some 111) rfl rfl (by kernel_rfl) (by kernel_rfl) (by kernel_rfl) (fun _ _ _ h => h) (by rfl) (by with_reducible exact hHeld) ?_
              try simp only [Act.put, List.setIfInBounds_toArray, List.set_cons_zero, List.set_cons_succ]
              refine take_off (i := 15) (some 112) rfl rfl (by kernel_rfl) (by kernel_rfl) (by kernel_rfl) (fun _ _ _ h => h) (by rfl) (by with_reducible exact hHeld) ?_
              try simp only [Act.put, List.setIfInBounds_toArray, List.set_cons_zero, List.set_cons_succ]
              refine take_off (i := 16) (some 113) rfl rfl (by kernel_rfl) (by kernel_rfl) (by kernel_rfl) (fun _ _ _ h => h) (by rfl) (by with_reducible exact hHeld) ?_
              try simp only [Act.put, List.setIfInBounds_toArray, List.set_cons_zero, List.set_cons_succ]
              refine take_off (i := 17) (some 114) rfl rfl (by kernel_rfl) (by kernel_rfl) (by kernel_rfl) (fun _ _ _ h => h) (by rfl) (by with_reducible exact hHeld) ?_
              try simp only [Act.put, List.setIfInBounds_toArray, List.set_cons_zero, List.set_cons_succ]
              refine take_on (i := 18) (some 115) (v := ?vr12) rfl rfl (by kernel_rfl) (by kernel_rfl) (by kernel_rfl) (fun _ _ _ h => h) (by rfl) ?hyr12 (by with_reducible exact hHeld) ?restr12
              case hyr12 => (intro wS hSw; (try dsimp only at hSw); go_simp; try with_reducible rfl)
              try simp only [Act.put, List.setIfInBounds_toArray, List.set_cons_zero, List.set_cons_succ]
              refine take_on (i := 19) (some 116) (v := ?vr13) rfl rfl (by kernel_rfl) (by kernel_rfl) (by kernel_rfl) (fun _ _ _ h => h) (by rfl) ?hyr13 (by with_reducible exact hHeld) ?restr13
              case hyr13 => (intro wS hSw; (try dsimp only at hSw); go_simp; try with_reducible rfl)
              try simp only [Act.put, List.setIfInBounds_toArray, List.set_cons_zero, List.set_cons_succ]
              refine wpAnyH_done (by kernel_rfl) ?_ _
              refine NoPanic.normal ?_
              go_wp2
              go_meet
              exact ⟨rfl, V6, WE, BKE⟩
            · subst hst
              refine wp_region_noPanic ?_
              refine wp_region_held_drew (S := fun w' => w'.cell? ⟨w.heap.size, 1, none⟩ = some (.int .i64 b)) (by kernel_rfl) (m1) (fun hHeld => ?_)
              refine take_on (i := 0) (some 97) (v := ?vr14) rfl rfl (by kernel_rfl) (by kernel_rfl) (by kernel_rfl) (fun _ _ _ h => h) (by rfl) ?hyr14 (by with_reducible exact hHeld) ?restr14
              case hyr14 => (intro wS hSw; (try dsimp only at hSw); go_simp; try with_reducible rfl)
              try simp only [Act.put, List.setIfInBounds_toArray, List.set_cons_zero, List.set_cons_succ]
              refine take_on (i := 1) (some 98) (v := ?vr15) rfl rfl (by kernel_rfl) (by kernel_rfl) (by kernel_rfl) (fun _ _ _ h => h) (by rfl) ?hyr15 (by with_reducible exact hHeld) ?restr15
              case hyr15 => (intro wS hSw; (try dsimp only at hSw); go_simp; try with_reducible rfl)
              try simp only [Act.put, List.setIfInBounds_toArray, List.set_cons_zero, List.set_cons_succ]
              refine wpAnyH_ready (rs := [2]) (by kernel_rfl) (by simp) ?_
              refine AllReadyH.cons rfl (fun K hK => ?_) AllReadyH.nil
              go_simp
              with_reducible refine gs.out.mono ?_
              rintro e wE ⟨rfl, hBE⟩
              have WE := Lib.hid (WD.out.below hBE)
              have BKE := Lib.hid (BKD.out.below hBE BKD.out.lt)
              have gq := has_any A1 c1 yn D.2.2 owner wE HXL.out.symm (by omega) (KD.out.below hBE).kept.1
              rw [HNO.out] at gq
              have GQ := Lib.hid gq
              have m1e : wE.cell? ⟨w.heap.size, 1, none⟩ = some (.int .i64 b) := BKE.out.cell 1
              clear gs hBE gq
              refine hK.out _ _ (m1e) (fun hHeld => ?_)
              clear hK K
              try simp only [Act.put, List.setIfInBounds_toArray, List.set_cons_zero, List.set_cons_succ]
              refine take_on (i := 3) (some 100) (v := ?vr16) rfl rfl (by kernel_rfl) (by kernel_rfl) (by kernel_rfl) (fun _ _ _ h => h) (by rfl) ?hyr16 (by with_reducible exact hHeld) ?restr16
              case hyr16 => (intro wS hSw; (try dsimp only at hSw); go_simp; try with_reducible rfl)
              try simp only [Act.put, List.setIfInBounds_toArray, List.set_cons_zero, List.set_cons_succ]
              refine take_on (i := 4) (some 101) (v := ?vr17) rfl rfl (by kernel_rfl) (by kernel_rfl) (by kernel_rfl) (fun _ _ _ h => h) (by rfl) ?hyr17 (by with_reducible exact hHeld) ?restr17
              case hyr17 => (intro wS hSw; (try dsimp only at hSw); go_simp; try with_reducible rfl)
              try simp only [Act.put, List.setIfInBounds_toArray, List.set_cons_zero, List.set_cons_succ]
              refine take_on (i := 5) (some 102) (v := ?vr18) rfl rfl (by kernel_rfl) (by kernel_rfl) (by kernel_rfl) (fun _ _ _ h => h) (by rfl) ?hyr18 (by with_reducible exact hHeld) ?restr18
              case hyr18 => (intro wS hSw; (try dsimp only at hSw); go_simp; try with_reducible rfl)
              try simp only [Act.put, List.setIfInBounds_toArray, List.set_cons_zero, List.set_cons_succ]
              refine take_on (i := 6) (some 103) (v := ?vr19) rfl rfl (by kernel_rfl) (by kernel_rfl) (by kernel_rfl) (fun _ _ _ h => h) (by rfl) ?hyr19 (by with_reducible exact hHeld) ?restr19
              case hyr19 => (intro wS hSw; (try dsimp only at hSw); go_simp; try with_reducible rfl)
              try simp only [Act.put, List.setIfInBounds_toArray, List.set_cons_zero, List.set_cons_succ]
              refine wpAnyH_ready (rs := [7]) (by kernel_rfl) (by simp) ?_
              refine AllReadyH.cons rfl (fun K hK => ?_) AllReadyH.nil
              go_simp
              with_reducible refine GQ.out.mono ?_
              rintro e w' ⟨rfl, rfl⟩
              refine hK.out _ _ (m1e) (fun hHeld => ?_)
              clear hK K
              try simp only [Act.put, List.setIfInBounds_toArray, List.set_cons_zero, List.set_cons_succ]
              refine take_on (i := 8) (some 105) (v := ?vr20) rfl rfl (by kernel_rfl) (by kernel_rfl) (by kernel_rfl) (fun _ _ _ h => h) (by rfl) ?hyr20 (by with_reducible exact hHeld) ?restr20
              case hyr20 => (intro wS hSw; (try dsimp only at hSw); go_simp; try with_reducible rfl)
              try simp only [Act.put, List.setIfInBounds_toArray, List.set_cons_zero, List.set_cons_succ]
              refine take_on (i := 9) (some 106) (v := ?vr21) rfl rfl (by kernel_rfl) (by kernel_rfl) (by kernel_rfl) (fun _ _ _ h => h) (by rfl) ?hyr21 (by with_reducible exact hHeld) ?restr21
              case hyr21 => (intro wS hSw; (try dsimp only at hSw); go_simp; try with_reducible rfl)
              try simp only [Act.put, List.setIfInBounds_toArray, List.set_cons_zero, List.set_cons_succ]
              refine take_on (i := 10) (some 107) (v := ?vr22) rfl rfl (by kernel_rfl) (by kernel_rfl) (by kernel_rfl) (fun _ _ _ h => h) (by rfl) ?hyr22 (by with_reducible exact hHeld) ?restr22
              case hyr22 => (intro wS hSw; (try dsimp only at hSw); go_simp; try with_reducible rfl)
              try simp only [Act.put, List.setIfInBounds_toArray, List.set_cons_zero, List.set_cons_succ]
              refine take_on (i := 11) (some 108) (v := ?vr23) rfl rfl (by kernel_rfl) (by kernel_rfl) (by kernel_rfl) (fun _ _ _ h => h) (by rfl) ?hyr23 (by with_reducible exact hHeld) ?restr23
              case hyr23 => (intro wS hSw; (try dsimp only at hSw); go_simp; try with_reducible rfl)
              try simp only [Act.put, List.setIfInBounds_toArray, List.set_cons_zero, List.set_cons_succ]
              refine take_on (i := 12) (some 109) (v := ?vr24) rfl rfl (by kernel_rfl) (by kernel_rfl) (by kernel_rfl) (fun _ _ _ h => h) (by rfl) ?hyr24 (by with_reducible exact hHeld) ?restr24
              case hyr24 => (intro wS hSw; (try dsimp only at hSw); go_simp; try with_reducible rfl)
              try simp only [Act.put, List.setIfInBounds_toArray, List.set_cons_zero, List.set_cons_succ]
              refine take_on (i := 13) (some 110) (v := ?vr25) rfl rfl (by kernel_rfl) (by kernel_rfl) (by kernel_rfl) (fun _ _ _ h => h) (by rfl) ?hyr25 (by with_reducible exact hHeld) ?restr25
              case hyr25 => (intro wS hSw; (try dsimp only at hSw); go_simp; try with_reducible rfl)
              try simp only [Act.put, List.setIfInBounds_toArray, List.set_cons_zero, List.set_cons_succ]
              refine take_on (i := 15) (some 112) (v := ?vr26) rfl rfl (by kernel_rfl) (by kernel_rfl) (by kernel_rfl) (fun _ _ _ h => h) (by rfl) ?hyr26 (by with_reducible exact hHeld) ?restr26
              case hyr26 => (intro wS hSw; (try dsimp only at hSw); go_simp; try with_reducible rfl)
              try simp only [Act.put, List.setIfInBounds_toArray, List.set_cons_zero, List.set_cons_succ]
              refine take_on (i := 16) (some 113) (v := ?vr27) rfl rfl (by kernel_rfl) (by kernel_rfl) (by kernel_rfl) (fun _ _ _ h => h) (by rfl) ?hyr27 (by with_reducible exact hHeld) ?restr27
              case hyr27 => (intro wS hSw; (try dsimp only at hSw); go_simp; try with_reducible rfl)
              try simp only [Act.put, List.setIfInBounds_toArray, List.set_cons_zero, List.set_cons_succ]
              have gwt := Lib.hid (waitingM_any w.heap.size Ta Ea k b D.2.1 V6 D.1 wE WE.out.ta)
              refine wpAnyH_ready (rs := [14]) (by kernel_rfl) (by simp) ?_
              refine AllReadyH.cons rfl (fun K hK => ?_) AllReadyH.nil
              go_simp
              with_reducible refine gwt.out.mono ?_
              rintro e wF ⟨rfl, hTF, hCF⟩
              have WF := Lib.hid (WE.out.stepA hTF hCF fun _ h => .inl h)
              have BKF := Lib.hid (WE.out.ta.keepB hCF BKE.out (by decide) (by decide) (by decide))
              have m1f : wF.cell? ⟨w.heap.size, 1, none⟩ = some (.int .i64 b) := BKF.out.cell 1
              clear gwt hTF hCF
              have hnb : ¬ D.2.1 < b := by omega
              refine hK.out _ _ (m1f) (fun hHeld => ?_)
              clear hK K
              try simp only [Act.put, List.setIfInBounds_toArray, List.set_cons_zero, List.set_cons_succ]
              refine take_on (i := 17) (some 114) (v := ?vr28) rfl rfl (by kernel_rfl) (by kernel_rfl) (by kernel_rfl) (fun _ _ _ h => h) (by rfl) ?hyr28 (by with_reducible exact hHeld) ?restr28
              case hyr28 => (intro wS hSw; (try dsimp only at hSw); go_simp; try with_reducible rfl)
              try simp only [Act.put, List.setIfInBounds_toArray, List.set_cons_zero, List.set_cons_succ]
              refine take_on (i := 18) (some 115) (v := ?vr29) rfl rfl (by kernel_rfl) (by kernel_rfl) (by kernel_rfl) (fun _ _ _ h => h) (by rfl) ?hyr29 (by with_reducible exact hHeld) ?restr29
              case hyr29 => (intro wS hSw; (try dsimp only at hSw); go_simp; try with_reducible rfl)
              try simp only [Act.put, List.setIfInBounds_toArray, List.set_cons_zero, List.set_cons_succ]
              refine take_on (i := 19) (some 116) (v := ?vr30) rfl rfl (by kernel_rfl) (by kernel_rfl) (by kernel_rfl) (fun _ _ _ h => h) (by rfl) ?hyr30 (by with_reducible exact hHeld) ?restr30
              case hyr30 => (intro wS hSw; (try dsimp only at hSw); go_simp; try with_reducible rfl)
              try simp only [Act.put, List.setIfInBounds_toArray, List.set_cons_zero, List.set_cons_succ]
              refine wpAnyH_done (by kernel_rfl) ?_ _
              refine NoPanic.normal ?_
              go_wp2
              go_meet
              exact ⟨rfl, V6, WF, BKF⟩
          case rest =>
            obtain ⟨rfl, Va, WX, BX⟩ := hcut
            clear hst m0 m1 gs WD BKD KD
            go_wp2_with fail
            go_loopw [17] (fun t17 wr => ∃ (x : Nat) (Va Vb : Nat → Value), x ≤ k ∧ t17 = .int .i64 (x : Int) ∧ Hid (Twin w wr Ta Ea Tb Eb k b Va Vb D.1 D.1 D.2.1 D.2.1) ∧ Hid (Blk wr w.heap.size 23 #[.int .i64 (k : Int), .int .i64 b])) (fun t17 _ => k - (intOf t17).toNat)
            case atStart => exact ⟨0, _, _, Nat.zero_le _, rfl, WX, BX⟩
            case round =>
              clear WX BX
              obtain ⟨x, Va, Vb, hx, rfl, hW, hBK⟩ := hrel
              have m0 : wr.cell? ⟨w.heap.size, 0, none⟩ = some (.int .i64 (k : Int)) := hBK.out.cell 0
              by_cases hlx : x < k
              · have hlx' : (x : Int) < (k : Int) := by omega
                have wd : 0 ≤ D.2.1 ∧ D.2.1 ≤ 1000000 := by have := DI.out.2; omega
                have ld := DI.out.1.lens4 (show i + 1 ≤ 4000000000000 by omega)
                obtain ⟨gone1, gone2⟩ := DGN.out x hlx
                have no1 : decide (owner ∈ (D.1 (x * 2)).map (·.1)) = false := decide_eq_false gone1
                have no2 : decide (owner ∈ (D.1 (x * 2 + 1)).map (·.1)) = false := decide_eq_false gone2
                obtain ⟨hl, hhl⟩ : ∃ v, v = (D.1 (x * 2)).length := ⟨_, rfl⟩
                obtain ⟨wl, hwl⟩ : ∃ v, v = (D.1 (x * 2 + 1)).length := ⟨_, rfl⟩
                have hlm : hl ≤ 4000000000000 := by rw [hhl]; exact ld _ (by omega)
                have wlm : wl ≤ 4000000000000 := by rw [hwl]; exact ld _ (by omega)
                have hh : ((D.1 (x * 2)).map (·.1)).length = hl := by rw [hhl]; exact List.length_map _
                have hw2 : ((D.1 (x * 2 + 1)).map (·.1)).length = wl := by rw [hwl]; exact List.length_map _
                have gh := fun w0 V0 T0 E0 h0 => holdersO_any w.heap.size T0 E0 k b (x : Int) V0 D.2.1 D.1 w0 h0 hn2 ld wd
                have gw := fun w0 V0 T0 E0 h0 => waitersO_any w.heap.size T0 E0 k b (x : Int) V0 D.2.1 D.1 w0 h0 hn2 ld wd
                simp only [list0 hlx] at gh
                simp only [list1 hlx] at gw
                simp only [hh] at gh
                simp only [hw2] at gw
                obtain ⟨md, hmd⟩ : ∃ md, md = modeOf (D.1 (x * 2)) 0 := ⟨_, rfl⟩
                simp only [← hmd] at gh
                have GH := Lib.hid gh
                have GW := Lib.hid gw
                have HHL := Lib.hid hh
                have HWL := Lib.hid hw2
                have NO1 := Lib.hid no1
                have NO2 := Lib.hid no2
                have mdd : (md != md) = false := by simp
                clear hhl hwl hh hw2 gh gw hmd no1 no2 gone1 gone2 ld wd
                go_wp2_with fail
                refine (GH.out _ _ _ _ hW.out.ta).mono ?_
                rintro e wA ⟨A1, c1, rfl, r1, _, V1, hT, hC, hF⟩
                have WA := Lib.hid (hW.out.stepA hT hC hF)
                have BA := Lib.hid (hW.out.ta.keepB hC hBK.out (by decide) (by decide) (by decide))
                have K1 := Lib.hid r1
                clear hT hC hF r1 hW hBK
                go_wp2_with fail
                refine (GH.out _ _ _ _ WA.out.tb).mono ?_
                rintro e wB ⟨A2, c2, rfl, r2, _, V2, hT, hC, hF⟩
                have WB := Lib.hid (WA.out.stepB hT hC hF)
                have BB := Lib.hid (WA.out.tb.keepB hC BA.out (by decide) (by decide) (by decide))
                have K1b := Lib.hid (K1.out.keep WA.out.tb hC)
                have K2 := Lib.hid r2
                clear hT hC hF r2 K1 BA WA
                go_wp2_with fail
                refine (GW.out _ _ _ _ WB.out.ta).mono ?_
                rintro e wC ⟨A3, c3, rfl, r3, _, V3, hT, hC, hF⟩
                have WC := Lib.hid (WB.out.stepA hT hC hF)
                have BC := Lib.hid (WB.out.ta.keepB hC BB.out (by decide) (by decide) (by decide))
                have K1c := Lib.hid (K1b.out.keep WB.out.ta hC)
                have K2c := Lib.hid (K2.out.keep WB.out.ta hC)
                have K3 := Lib.hid r3
                clear hT hC hF r3 K1b K2 BB WB
                go_wp2_with fail
                refine (GW.out _ _ _ _ WC.out.tb).mono ?_
                rintro e wD ⟨A4, c4, rfl, r4, _, V4, hT, hC, hF⟩
                have WW := Lib.hid (WC.out.stepB hT hC hF)
                have BW := Lib.hid (WC.out.tb.keepB hC BC.out (by decide) (by decide) (by decide))
                have K1d := Lib.hid (K1c.out.keep WC.out.tb hC)
                have K2d := Lib.hid (K2c.out.keep WC.out.tb hC)
                have K3d := Lib.hid (K3.out.keep WC.out.tb hC)
                have K4 := Lib.hid r4
                clear hT hC hF r4 K1c K2c K3 BC WC GH GW m0
                have gs := Lib.hid (same_yes A1 A2 c1 c2 hl _ wD HHL.out (by omega) K1d.out.kept.1 K2d.out.kept.1)
                go_wp2_with (go_at_call 18; (with_reducible refine (num_any _ _).mono ?_); rintro e w' ⟨rfl, rfl⟩)
                refine gs.out.mono ?_
                rintro e wE ⟨rfl, hBE⟩
                have WE := Lib.hid (WW.out.below hBE)
                have BE := Lib.hid (BW.out.below hBE BW.out.lt)
                have K1e := Lib.hid (K1d.out.below hBE)
                have K3e := Lib.hid (K3d.out.below hBE)
                have gs2 := Lib.hid (same_yes A3 A4 c3 c4 wl _ wE HWL.out (by omega) K3e.out.kept.1 (K4.out.below hBE).kept.1)
                clear gs hBE WW BW K1d K2d K3d K4
                go_wp2_with fail
                refine gs2.out.mono ?_
                rintro e wF ⟨rfl, hBF⟩
                have WF := Lib.hid (WE.out.below hBF)
                have BF := Lib.hid (BE.out.below hBF BE.out.lt)
                have gh1 := has_any A1 c1 hl _ owner wF HHL.out (by omega) (K1e.out.below hBF).kept.1
                have gh2 := has_any A3 c3 wl _ owner wF HWL.out (by omega) (K3e.out.below hBF).kept.1
                rw [NO1.out] at gh1
                rw [NO2.out] at gh2
                have GH1 := Lib.hid gh1
                have GH2 := Lib.hid gh2
                clear gs2 hBF WE BE K1e K3e gh1 gh2
                go_wp2_with fail
                refine GH1.out.mono ?_
                rintro e w' ⟨rfl, rfl⟩
                go_wp2_with fail
                refine GH2.out.mono ?_
                rintro e w' ⟨rfl, rfl⟩
                clear GH1 GH2
                go_wp2
                go_roundw
                case rel => exact ⟨x + 1, V3, V4, by omega, by go_num, WF, BF⟩
                case measure => simp [intOf]; omega
              · obtain rfl : x = k := by omega
                go_wp2
                go_ret
                exact ⟨rfl, hW.out.bel⟩
theorem dropis_row (a b : Int) (A : Option Addr) (cap : Nat) (ops : List O5) (owner : Int) (w : World) (hsm : ops.length ≤ 3600000000000) (hr : RdS encO5 5 w A ops) (_wf : (Lit.int .i64 owner).wf = true) :
    Calls Try.prog 6 #[.agg #[.int .i64 a, .int .i64 b], .slice A ops.length cap, .int .i64 owner] w fun e w' => e = .returned (.bool true) ∧ Below w.heap.size w w' :=
  dropis_any a b owner A cap ops.length ops w rfl hsm hr
end Go.Proofs.Ytkjbjfjgnponfaa
