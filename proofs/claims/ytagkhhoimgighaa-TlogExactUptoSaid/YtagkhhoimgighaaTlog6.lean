/- The transfer log: Fail and Barrier, by contract. -/
import Derived.Test.YtagkhhoimgighaaTlog5
namespace Go.Proofs.Ytagkhhoimgighaa
open Go.RowKit

section
variable {w w' : World} {G : Nat} {s : LogS} {F F' : Nat → Nat → Prop} {A : Option Addr} {c b n : Nat}
def failS (s : LogS) : LogS := { s with ws := [], opn := 1, filled := 0 }
set_option maxRecDepth 20000 in
set_option maxHeartbeats 1000000 in
theorem fail_in (h : LogIn w G s A c b n) (hc : c ≤ 9223372036854775807) : Calls Try.prog 19 #[.pointer (some ⟨G, 0, none⟩)] w fun e w' =>
    e = .returned (.slice A s.ws.length s.ws.length) ∧ LogIn w' G (failS s) (if c = s.ws.length then A else A.map (·.add (s.ws.length * 3))) (c - s.ws.length) b n ∧ Chg (fun k _ => k = G ∨ k = b) w w' := by
  obtain ⟨c0, c1, c2, c3, c4, c5, c6⟩ := h.cells
  have hL := leave_any s.ws.length h (Nat.le_refl _) hc
  rw [List.drop_length] at hL
  obtain ⟨A1, hA1⟩ : ∃ A1 : Option Addr, A1 = if c = s.ws.length then A else A.map (·.add (s.ws.length * 3)) := ⟨_, rfl⟩
  obtain ⟨d1, hd1⟩ : ∃ c1, c1 = c - s.ws.length := ⟨_, rfl⟩
  rw [← hA1, ← hd1] at hL ⊢
  clear hA1 hd1 h c0 c1 c2 c3 c4 c6
  go_enter Try.func19, Try.ntmps19
  go_wp2_with (go_at_call 32; refine hL.mono ?_; rintro e w1 ⟨rfl, h1, k1⟩; have z2 := h1.blk.frozen 2; have z3 := h1.blk.frozen 3; have y2 := h1.blk.cell 2; have y3 := h1.blk.cell 3; simp only [logC] at y2 y3)
  go_ret
  refine ⟨rfl, (h1.setG 2 (.int .i64 1) { s with ws := [], opn := 1 } rfl rfl (Nat.le_refl _)).setG 3 (.int .i64 0) (failS s) rfl rfl (Nat.le_refl _), ?_⟩
  exact (k1.trans (Chg.setCell (fun k _ => k = G ∨ k = b) _ (.inl rfl) _) fun _ _ _ h => h).trans (Chg.setCell (fun k _ => k = G ∨ k = b) _ (.inl rfl) _) fun _ _ _ h => h

/-- the log's cells when N writes have left: fewer, and apart from what left -/
theorem logFp_left (h : LogIn w G s A c b n) {N : Nat} (hN : N ≤ s.ws.length) {A1 : Option Addr} {c1 : Nat} (hA : A1 = if c = N then A else A.map (·.add (N * 3))) (hc1 : c1 = c - N) {k i : Nat} (hf : logFp G A1 c1 b (s.ws.drop N) k i) :
    logFp G A c b s.ws k i ∧ ¬ slFp 3 A 0 N k i := by
  have hle := h.row.le
  have key : slFp 3 A1 0 c1 k i → slFp 3 A 0 c k i ∧ ¬ slFp 3 A 0 N k i := by
    rintro ⟨o, ho, h1, h2⟩
    subst hc1
    by_cases e : c = N
    · rw [e, Nat.sub_self] at h2
      omega
    · rw [hA, if_neg e] at ho
      cases A with
      | none => cases ho
      | some a =>
        rcases h.row with ⟨h, _⟩ | ⟨g, o', cs, ha, _⟩
        · cases h
        · cases ha
          simp only [Option.map_some, add_lit_, Option.some.injEq, Addr.mk.injEq] at ho
          obtain ⟨rfl, rfl, _⟩ := ho
          refine ⟨⟨o', rfl, by omega, ?_⟩, ?_⟩
          · rw [Nat.sub_mul] at h2
            have : N * 3 ≤ c * 3 := Nat.mul_le_mul_right _ (by omega)
            omega
          · rintro ⟨o2, e2, _, h4⟩
            cases e2
            omega
  rcases hf with rfl | rfl | hf | ⟨x, hx, rfl⟩
  · exact ⟨.inl rfl, fun hs => (h.row_ne (by obtain ⟨o, h1, h2, h3⟩ := hs; exact ⟨o, h1, h2, by have : N * 3 ≤ c * 3 := Nat.mul_le_mul_right _ (by omega); omega⟩)).1 rfl⟩
  · exact ⟨.inr (.inl rfl), fun hs => h.row_map (by obtain ⟨o, h1, h2, h3⟩ := hs; exact ⟨o, h1, h2, by have : N * 3 ≤ c * 3 := Nat.mul_le_mul_right _ (by omega); omega⟩) rfl⟩
  · exact ⟨.inr (.inr (.inl (key hf).1)), (key hf).2⟩
  · have hx' := List.mem_of_mem_drop hx
    refine ⟨.inr (.inr (.inr ⟨x, hx', rfl⟩)), fun hs => ?_⟩
    have hs' : slFp 3 A 0 c x.at_ i := by obtain ⟨o, h1, h2, h3⟩ := hs; exact ⟨o, h1, h2, by have : N * 3 ≤ c * 3 := Nat.mul_le_mul_right _ (by omega); omega⟩
    exact absurd (h.row_type hs' (h.std x hx')) (by decide)

/-- a list that a call hands out: it reads as the writes, in cells that were the log's and are so no more -/
def Handed (w' : World) (F F' : Nat → Nat → Prop) (A : Option Addr) (N : Nat) (l : List Wr) : Prop := GSl encW 3 36 w' A N l ∧ l.length = N ∧ ∀ k i, slFp 3 A 0 N k i → F k i ∧ ¬ F' k i
theorem LogAt.left (hF : ∀ k i, F k i ↔ logFp G A c b s.ws k i) (h : LogIn w G s A c b n) {N : Nat} (hN : N ≤ s.ws.length) {s' : LogS} (hs : s'.ws = s.ws.drop N)
    (h' : LogIn w' G s' (if c = N then A else A.map (·.add (N * 3))) (c - N) b n) (k : Chg (fun k _ => k = G ∨ k = b) w w') :
    ∃ F', LogAt w' G s' F' ∧ Chg F w w' ∧ (∀ k i, F' k i → F k i) ∧ Handed w' F F' A N (s.ws.take N) := by
  have hle := h.row.le
  have wide : ∀ k i, slFp 3 A 0 N k i → slFp 3 A 0 c k i := fun k i ⟨o, h1, h2, h3⟩ => ⟨o, h1, h2, by have : N * 3 ≤ c * 3 := Nat.mul_le_mul_right _ (by omega); omega⟩
  refine ⟨logFp G (if c = N then A else A.map (·.add (N * 3))) (c - N) b (s.ws.drop N), ⟨_, _, _, _, h', fun k i => by rw [hs]⟩, k.mono fun j i _ e => (hF j i).2 ?_, fun j i hf => (hF j i).2 (logFp_left h hN rfl rfl hf).1, ?_, by simp; omega, fun j i hl => ⟨(hF j i).2 (.inr (.inr (.inl (wide j i hl)))), fun hf => (logFp_left h hN rfl rfl hf).2 hl⟩⟩
  · rcases e with rfl | rfl
    · exact .inl rfl
    · exact .inr (.inl rfl)
  · refine (h.row.take N hN).chg k encW_len fun g i hl e => ?_
    have hl' := wide g i (by obtain ⟨o, h1, h2, h3⟩ := hl; exact ⟨o, h1, h2, by simp at h3; omega⟩)
    rcases e with e | e
    · exact (h.row_ne hl').1 e
    · exact h.row_map hl' e
theorem fail_any (h : LogAt w G s F) : Calls Try.prog 19 #[.pointer (some ⟨G, 0, none⟩)] w fun e w' => ∃ A F', e = .returned (.slice A s.ws.length s.ws.length) ∧ LogAt w' G (failS s) F' ∧ Chg F w w' ∧ (∀ k i, F' k i → F k i) ∧ Handed w' F F' A s.ws.length s.ws := by
  obtain ⟨A, c, b, n, h, hF⟩ := h
  have hc : c ≤ 9223372036854775807 := by
    rcases h.row with ⟨_, _, rfl⟩ | ⟨g, o, cs, _, _, hm, _⟩
    · omega
    · simpa only [maxLen] using hm
  refine (fail_in h hc).mono fun e w' ⟨he, h', k⟩ => ?_
  obtain ⟨F', r1, r2, r3, r4⟩ := LogAt.left hF h (Nat.le_refl _) (s' := failS s) (by simp [failS]) h' k
  rw [List.take_length] at r4
  exact ⟨A, F', he, r1, r2, r3, r4⟩
end
end Go.Proofs.Ytagkhhoimgighaa
