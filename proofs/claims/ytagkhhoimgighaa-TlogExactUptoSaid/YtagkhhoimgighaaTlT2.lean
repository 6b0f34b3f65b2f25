/- TlogExact: two logs, the document's two, and the one Book side by side in memory. No walk. -/
import Derived.Test.YtagkhhoimgighaaTlMo
namespace Go.Proofs.Ytagkhhoimgighaa
open Go.RowKit
set_option linter.unusedVariables false
set_option linter.unusedSimpArgs false
/-- what is known of one log and the document's beside it, k calls having been spent -/
structure SB (s : LogS) (r : RefT) (k : Nat) : Prop where
  sim : Sim s r
  lim : goodB s.limit s.width
  len : (s.ws.length : Int) ≤ s.limit
  turn : s.turn ≤ k
  opn : s.opn ≤ k + 1
  fil : s.filled ≤ s.width
/-- one side: nothing, or a log and the document's, whose cells are U -/
def Sd (w : World) (o : Option (Nat × Nat)) (k : Nat) (U : Nat → Nat → Prop) : Prop := match o with
  | none => ∀ k i, ¬ U k i
  | some (G, R) => ∃ (s : LogS) (r : RefT) (F : Nat → Nat → Prop) (FR : Nat → Prop), LogAt w G s F ∧ RefAt w R r FR ∧ (∀ k i, F k i → ¬ FR k) ∧ SB s r k ∧ ∀ k i, U k i ↔ (F k i ∨ FR k)
section
variable {w w' : World} {o o1 o2 : Option (Nat × Nat)} {k : Nat} {U U1 U2 FB X Q0 : Nat → Nat → Prop} {B fn kn : Nat} {mk : Int}
theorem Sd.lt (h : Sd w o k U) {j i : Nat} (hj : U j i) : j < w.heap.size := by
  cases o with
  | none => exact absurd hj (h j i)
  | some p =>
    obtain ⟨s, r, F, FR, h1, h2, _, _, h3⟩ := h
    rcases (h3 j i).1 hj with h | h
    · exact h1.fp_lt h
    · exact h2.lt h
theorem Sd.chg (h : Sd w o k U) (hc : Chg X w w') (hn : ∀ j i, U j i → ¬ X j i) : Sd w' o k U := by
  cases o with
  | none => exact h
  | some p =>
    obtain ⟨s, r, F, FR, h1, h2, h3, h4, h5⟩ := h
    exact ⟨s, r, F, FR, h1.chg hc fun j i hj => hn j i ((h5 j i).2 (.inl hj)), h2.chg hc fun j hj i => hn j i ((h5 j i).2 (.inr hj)), h3, h4, h5⟩
theorem Sd.later {k' : Nat} (h : Sd w o k U) (hk : k ≤ k') : Sd w o k' U := by
  cases o with
  | none => exact h
  | some p =>
    obtain ⟨s, r, F, FR, h1, h2, h3, h4, h5⟩ := h
    exact ⟨s, r, F, FR, h1, h2, h3, ⟨h4.sim, h4.lim, h4.len, Nat.le_trans h4.turn hk, by have := h4.opn; omega, h4.fil⟩, h5⟩
structure T2 (Q0 : Nat → Nat → Prop) (w : World) (o1 o2 : Option (Nat × Nat)) (B k : Nat) (U1 U2 FB : Nat → Nat → Prop) (fn kn : Nat) (mk : Int) : Prop where
  bs : ∀ j, w.heap.size ≤ j → ∀ i, Q0 j i
  s1 : Sd w o1 k U1
  s2 : Sd w o2 k U2
  bk : BkAt w B fn kn mk FB
  d12 : ∀ j i, U1 j i → ¬ U2 j i
  d1B : ∀ j i, U1 j i → ¬ FB j i
  d2B : ∀ j i, U2 j i → ¬ FB j i
  q1 : ∀ j i, U1 j i → Q0 j i
  q2 : ∀ j i, U2 j i → Q0 j i
  qB : ∀ j i, FB j i → Q0 j i
  fn1 : fn ≤ 1
  kn1 : kn ≤ 4 * k
  mk0 : 0 ≤ mk
  mk1 : mk ≤ 2 * k
theorem T2.swap (h : T2 Q0 w o1 o2 B k U1 U2 FB fn kn mk) : T2 Q0 w o2 o1 B k U2 U1 FB fn kn mk :=
  ⟨h.bs, h.s2, h.s1, h.bk, fun j i h1 h2 => h.d12 j i h2 h1, h.d2B, h.d1B, h.q2, h.q1, h.qB, h.fn1, h.kn1, h.mk0, h.mk1⟩
theorem T2.later {k' : Nat} (h : T2 Q0 w o1 o2 B k U1 U2 FB fn kn mk) (hk : k ≤ k') : T2 Q0 w o1 o2 B k' U1 U2 FB fn kn mk :=
  ⟨h.bs, h.s1.later hk, h.s2.later hk, h.bk, h.d12, h.d1B, h.d2B, h.q1, h.q2, h.qB, h.fn1, by have := h.kn1; omega, h.mk0, by have := h.mk1; omega⟩
/-- something apart from all has turned -/
theorem T2.other (h : T2 Q0 w o1 o2 B k U1 U2 FB fn kn mk) (hc : Chg X w w') (hn : ∀ j i, X j i → ¬ Q0 j i) : T2 Q0 w' o1 o2 B k U1 U2 FB fn kn mk :=
  ⟨fun j hj => h.bs j (Nat.le_trans hc.size hj), h.s1.chg hc fun j i h1 h2 => hn j i h2 (h.q1 j i h1), h.s2.chg hc fun j i h1 h2 => hn j i h2 (h.q2 j i h1), h.bk.chg hc fun j i h1 h2 => hn j i h2 (h.qB j i h1),
   h.d12, h.d1B, h.d2B, h.q1, h.q2, h.qB, h.fn1, h.kn1, h.mk0, h.mk1⟩
theorem T2.below (h : T2 Q0 w o1 o2 B k U1 U2 FB fn kn mk) (hB : Below w.heap.size w w') : T2 Q0 w' o1 o2 B k U1 U2 FB fn kn mk := h.other (Chg.of_below (fun _ _ => False) hB) fun _ _ h => h.elim
/-- the first side by itself -/
theorem T2.ps {G R : Nat} (h : T2 Q0 w (some (G, R)) o2 B k U1 U2 FB fn kn mk) : ∃ (s : LogS) (r : RefT) (F : Nat → Nat → Prop) (FR : Nat → Prop), PS (fun j i => Q0 j i ∧ ¬ U2 j i) w G R B k s r F FR FB fn kn mk := by
  obtain ⟨s, r, F, FR, h1, h2, h3, h4, h5⟩ := h.s1
  have uF : ∀ j i, F j i → U1 j i := fun j i hj => (h5 j i).2 (.inl hj)
  have uR : ∀ j, FR j → ∀ i, U1 j i := fun j hj i => (h5 j i).2 (.inr hj)
  exact ⟨s, r, F, FR, ⟨fun j hj i => ⟨h.bs j hj i, fun hu => by have := h.s2.lt hu; omega⟩, h1, h2, h.bk, h3, fun j i hj => h.d1B j i (uF j i hj), fun j i hb hr => h.d1B j i (uR j hr i) hb,
    fun j i hj => ⟨h.q1 j i (uF j i hj), h.d12 j i (uF j i hj)⟩, fun j hj i => ⟨h.q1 j i (uR j hj i), h.d12 j i (uR j hj i)⟩, fun j i hj => ⟨h.qB j i hj, fun hu => h.d2B j i hu hj⟩⟩,
    h4.sim, h4.lim, h4.len, h4.turn, h4.opn, h4.fil, h.fn1, h.kn1, h.mk0, h.mk1⟩
/-- the two sides and the Book, whatever cells they have -/
def T2E (Q0 : Nat → Nat → Prop) (w : World) (o1 o2 : Option (Nat × Nat)) (B k : Nat) : Prop := ∃ (U1 U2 FB : Nat → Nat → Prop) (fn kn : Nat) (mk : Int), T2 Q0 w o1 o2 B k U1 U2 FB fn kn mk
theorem T2E.swap (h : T2E Q0 w o1 o2 B k) : T2E Q0 w o2 o1 B k := by
  obtain ⟨U1, U2, FB, fn, kn, mk, h⟩ := h
  exact ⟨_, _, _, _, _, _, h.swap⟩
theorem T2E.later {k' : Nat} (h : T2E Q0 w o1 o2 B k) (hk : k ≤ k') : T2E Q0 w o1 o2 B k' := by
  obtain ⟨U1, U2, FB, fn, kn, mk, h⟩ := h
  exact ⟨_, _, _, _, _, _, h.later hk⟩
theorem T2E.below (h : T2E Q0 w o1 o2 B k) (hB : Below w.heap.size w w') : T2E Q0 w' o1 o2 B k := by
  obtain ⟨U1, U2, FB, fn, kn, mk, h⟩ := h
  exact ⟨_, _, _, _, _, _, h.below hB⟩
theorem T2E.other (h : T2E Q0 w o1 o2 B k) (hc : Chg X w w') (hn : ∀ j i, X j i → ¬ Q0 j i) : T2E Q0 w' o1 o2 B k := by
  obtain ⟨U1, U2, FB, fn, kn, mk, h⟩ := h
  exact ⟨_, _, _, _, _, _, h.other hc hn⟩
/-- a call on the first side -/
theorem T2E.call {G R : Nat} {e : Ending} (h : T2 Q0 w (some (G, R)) o2 B k U1 U2 FB fn kn mk) (m : MvP (fun j i => Q0 j i ∧ ¬ U2 j i) w G R B k e w') : e = .returned (.bool true) ∧ T2E Q0 w' (some (G, R)) o2 B (k + 1) ∧ Chg Q0 w w' := by
  obtain ⟨rfl, hc, s', r', F', FR', FB', fn', kn', mk', p⟩ := m
  refine ⟨rfl, ⟨fun j i => F' j i ∨ FR' j, U2, FB', fn', kn', mk', fun j hj i => (p.ms.bs j hj i).1, ⟨s', r', F', FR', p.ms.log, p.ms.ref, p.ms.dFR, ⟨p.sim, p.lim, p.len, p.turn, p.opn, p.fil⟩, fun _ _ => Iff.rfl⟩,
    (h.s2.chg hc fun j i hj hq => hq.2 hj).later (by omega), p.ms.bk, fun j i hj => ?_, fun j i hj => ?_, fun j i hj hb => (p.ms.fB j i hb).2 hj, fun j i hj => ?_, h.q2, fun j i hj => (p.ms.fB j i hj).1, p.fn1, p.kn1, p.mk0, p.mk1⟩, hc.mono fun j i _ hq => hq.1⟩
  · rcases hj with h1 | h1
    · exact (p.ms.fF j i h1).2
    · exact (p.ms.fR j h1 i).2
  · rcases hj with h1 | h1
    · exact p.ms.dFB j i h1
    · exact fun hb => p.ms.dBR j i hb h1
  · rcases hj with h1 | h1
    · exact (p.ms.fF j i h1).1
    · exact (p.ms.fR j h1 i).1
end
end Go.Proofs.Ytagkhhoimgighaa
