/- Package walk: the iterator of Rest, by contract. -/
import Derived.Test.YtdhccjmokmdboaaDoorWkG
namespace Go.Proofs.YtdhccjmokmdboaaDoor
open Go.RowKit
set_option linter.unusedVariables false
set_option linter.unusedSimpArgs false
attribute [local go_sem] Oper.semAt_some
noncomputable def lenAt (W : World) (K : Nat) : Nat := match W.cell? ⟨K, 0, none⟩ with
  | some (.slice _ n _) => n
  | _ => 0
section
variable {W W' : World} {K K' : Nat} {bits : List Nat} {A : Option Addr} {c : Nat}
theorem WkIn.len (h : WkIn W K bits A c) : lenAt W K = bits.length := by
  have := h.1.cell 0
  unfold lenAt
  rw [show W.cell? ⟨K, 0, none⟩ = some (.slice A bits.length c) from this]
theorem WkIn.fp_ne {cs : Array Value} (h : WkIn W K bits A c) (hb : Blk W K' 61 cs) {k i : Nat} (hs : slFp 1 A 0 c k i) : k ≠ K' := by
  intro e
  subst e
  obtain ⟨o, e1, _⟩ := hs
  rcases h.2 with ⟨e2, _⟩ | ⟨g2, o2, cs2, e2, _, _, hb2, _⟩
  · rw [e1] at e2; cases e2
  · rw [e1] at e2
    cases e2
    exact Blk.ne_ (show Blk W k 3 cs2 from hb2) hb (by decide) rfl
/-- another walker moves on -/
theorem WkIn.other {cs : Array Value} (h : WkIn W K bits A c) (hb : Blk W K' 61 cs) (hne : K ≠ K') (hc : Chg (fun k _ => k = K') W W') : WkIn W' K bits A c :=
  h.chg hc fun k i hs e => by
    rcases hs with hs | hs
    · exact hne (hs.symm.trans e)
    · exact h.fp_ne hb hs e
end
section
set_option maxRecDepth 100000 in
set_option maxHeartbeats 2000000 in
theorem rest_iter (nn : Nat) (hnn : 1 ≤ nn) (l Bx K : Nat) (Bd : Nat → Prop) (P : List Nat → World → Prop) (I : Nat → List Nat → World → Prop) (En Lp Ex : World → Prop)
    (hP : ∀ rest W, P rest W → (∃ A c, WkIn W K rest A c ∧ ∀ k i, slFp 1 A 0 c k i → Bd k) ∧ W.cell? ⟨Bx, 0, none⟩ = some (.pointer (some ⟨K, 0, none⟩)))
    (hI : ∀ b rest W W' A' c', P (b :: rest) W → WkIn W' K rest A' c' → Chg (fun k _ => k = K) W W' → (∀ k i, slFp 1 A' 0 c' k i → Bd k) → I b rest W')
    (hE : ∀ W W' A' c', P [] W → WkIn W' K [] A' c' → Chg (fun k _ => k = K) W W' → (∀ k i, slFp 1 A' 0 c' k i → Bd k) → En W')
    (hL : ∀ W W', Lp W → Chg (fun k _ => k = K) W W' → Lp W')
    (hY : ∀ b rest W, I b rest W → Lp W → YieldAt Fence.wide (nn - 1) Tryd.prog l #[.int .i64 (b : Int)] W fun e W' => (e = .returned (.bool true) ∧ (∃ rest', rest'.length ≤ rest.length ∧ P rest' W') ∧ Lp W') ∨ (e = .returned (.bool false) ∧ Ex W'))
    (bits : List Nat) (W : World) (h0 : P bits W) (hl : Lp W) :
    CallsIn Fence.wide nn Tryd.prog 25 #[.func (.yield l) #[] #[], .pointer (some ⟨Bx, 0, none⟩)] W fun e W' => (∃ v, e = .returned v) ∧ ((En W' ∧ Lp W') ∨ Ex W') := by
  have HP := Lib.hid hP
  have HI := Lib.hid hI
  have HE := Lib.hid hE
  have HLp := Lib.hid hL
  have HY := Lib.hid hY
  have HH0 := Lib.hid (show P bits W ∧ Lp W from ⟨h0, hl⟩)
  clear hP hI hE hL hY h0 hl
  refine callsIn_of_wp Tryd.func25 rfl trivial ?_ rfl
  simp only [Tryd.ntmps25, List.size_toArray, List.length_cons, List.length_nil, Nat.reduceAdd, Nat.reduceSub, Array.replicate_succ, Array.replicate_zero, List.push_toArray, List.append_toArray, List.nil_append, List.cons_append]
  try gi_wp2_with fail
  gi_loopw [] (fun wr => ∃ rest, Hid (P rest wr ∧ Lp wr)) (fun wr => lenAt wr K)
  case atStart => exact ⟨bits, HH0⟩
  case round =>
    obtain ⟨rest, hJ⟩ := hrel
    obtain ⟨⟨A, c, hw, hbd⟩, hb⟩ := HP.out _ _ hJ.out.1
    have hlen := hw.len
    have NX0 := wnext_any hw
    cases rest with
    | nil =>
      simp only [nxV] at NX0
      have NX := Lib.hid NX0
      clear NX0 hw hlen
      gi_wp2_with (refine ⟨trivial, ?_⟩; gi_at_call 12; refine (callsIn_wide.2 NX.out).mono ?_; rintro e w3 ⟨rfl, A3, c3, hw3, hc3, hs3⟩; have HF := Lib.hid (show En w3 ∧ Lp w3 from ⟨HE.out _ _ _ _ hJ.out.1 hw3 hc3 (fun k i hh => hbd k i (hs3 k i hh)), HLp.out _ _ hJ.out.2 hc3⟩); clear hw3 hc3)
      refine ⟨fun _ h => by (cases h), ?_⟩
      gi_wp2
      first
        | (refine bodyPost_ret (results_none rfl _ _ _) rfl ?_; exact ⟨⟨_, rfl⟩, .inl HF.out⟩)
        | (go_end0; exact ⟨⟨_, rfl⟩, .inl HF.out⟩)
    | cons b rest =>
      simp only [nxV] at NX0
      have NX := Lib.hid NX0
      have HLn := Lib.hid hlen
      clear NX0 hw hlen
      gi_wp2_with (refine ⟨trivial, ?_⟩; gi_at_call 12; refine (callsIn_wide.2 NX.out).mono ?_; rintro e w3 ⟨rfl, A3, c3, hw3, hc3, hs3⟩; obtain ⟨fn, tmps, assign, body, hy, hR⟩ := HY.out b rest w3 (HI.out _ _ _ _ _ _ hJ.out.1 hw3 hc3 fun k i hh => hbd k i (hs3 k i hh)) (HLp.out _ _ hJ.out.2 hc3); clear hw3 hc3)
      refine hR.mono ?_
      rintro e W3 (⟨rfl, ⟨rest', hle, hp3⟩, hl3⟩ | ⟨rfl, hx3⟩)
      · have hw3 := (HP.out _ _ hp3).1
        have HJ3 := Lib.hid (show P rest' W3 ∧ Lp W3 from ⟨hp3, hl3⟩)
        have HM := Lib.hid (show lenAt W3 K < lenAt wr K from by
          obtain ⟨A5, c5, h5, _⟩ := hw3
          rw [h5.len, HLn.out]
          simp only [List.length_cons]
          omega)
        clear hp3 hl3 hw3
        gi_wp2
        go_roundw
        case rel => exact ⟨rest', HJ3⟩
        case measure => exact HM.out
      · gi_wp2
        refine bodyPost_ret (results_none rfl _ _ _) rfl ?_
        exact ⟨⟨_, rfl⟩, .inr hx3⟩
end
end Go.Proofs.YtdhccjmokmdboaaDoor
