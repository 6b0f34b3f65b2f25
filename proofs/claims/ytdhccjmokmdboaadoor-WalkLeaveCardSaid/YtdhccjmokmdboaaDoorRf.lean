/- A range over a function, with an iterator that keeps state of its own in memory: one law, on top of the kit's law of the statement. Nothing here is about the program. -/
import Derived.Test.YtdhccjmokmdboaaDoorHeap
import Derived.RangeFuncNested
import Derived.RangeFuncBound
import Derived.RangeFuncCalls
import Derived.RangeFuncLeaves
import Derived.OwnWalkIn
namespace Go.Proofs.YtdhccjmokmdboaaDoor
open Go.RowKit
set_option linter.unusedVariables false
set_option linter.unusedSimpArgs false
/-- a block that holds no cells is written: nothing else has turned -/
theorem Chg.putObj (F : Nat → Nat → Prop) {W : World} {r : Nat} {o : Obj} (o' : Obj) (h : W.heap[r]? = some o) (hc : o.isCells = false) (hF : F r 0) : Chg F W (W.putObj r o') :=
  ⟨rfl, rfl, rfl, by simp, fun k hk hn => World.putObj_heap_other fun e => by subst e; exact hn 0 hF, fun k cs t fr hk => by
    refine ⟨cs, ?_, rfl, fun _ _ => rfl⟩
    rw [World.putObj_heap_other (fun e => by subst e; rw [h] at hk; cases hk; cases hc)]
    exact hk⟩
/-- it abides what turns at the loop's own two blocks -/
def Stable2 (D : Nat) (I : World → Prop) : Prop := ∀ W W', I W → Chg (fun k _ => k = D ∨ k = D + 1) W W' → I W'
/-- it abides whatever turns elsewhere -/
def Kept2 (D : Nat) (L : World → Prop) : Prop := ∀ W W' X, L W → Chg X W W' → (∀ i, ¬ X D i) → (∀ i, ¬ X (D + 1) i) → L W'
/-- how a round's body may be left -/
def rfPost {α : Type} (D : Nat) (J : α → World → Prop) (Ix : Code → World → Prop) (x : α) (W : World) : Exit → Act → World → Prop
  | .normal, _, W' => W'.heap[D]? = W.heap[D]? ∧ W'.heap[D + 1]? = W.heap[D + 1]? ∧ J x W'
  | .ret, _, W' => W'.heap[D]? = W.heap[D]? ∧ W'.heap[D + 1]? = W.heap[D + 1]? ∧ Ix .ret W'
  | .exit id, _, W' => W'.heap[D]? = W.heap[D]? ∧ W'.heap[D + 1]? = W.heap[D + 1]? ∧ Ix (.exit id) W'
  | .goto t, _, W' => W'.heap[D]? = W.heap[D]? ∧ W'.heap[D + 1]? = W.heap[D + 1]? ∧ Ix (.goto t) W'
  | .panic _, _, _ => False
  | .outgrown, _, _ => False
theorem kept2_heap {D : Nat} {o1 o2 : Obj} (h1 : o1.isCells = false) (h2 : o2.isCells = false) : Kept2 D fun W => W.heap[D + 1]? = some o1 ∧ W.heap[D]? = some o2 := fun W W' X h hc n1 n2 =>
  ⟨(hc.far _ (Array.getElem?_eq_some_iff.1 h.1).1 n2).trans h.1, (hc.far _ (Array.getElem?_eq_some_iff.1 h.2).1 n1).trans h.2⟩
set_option maxHeartbeats 2000000 in
theorem rf_free {σ α : Type} {F : Fence} {n : Nat} {P : Program} {g : Operand} {ps : Array Tmp} {assign body : Code} {Q : Exit → Act → World → Prop} {a : Act} {w : World}
    (hro : F.round = none) (h1 : 1 ≤ n) {gf : Nat} {lb : Array Value} (hg : a.eval g = .func (.func gf) #[] lb) (hFg : F.fn gf) (eg : ∀ args w, (callFunc gf args).run P w = .ok (.enter gf args) w)
    (encs : α → Array Value) (hps : ∀ x, (encs x).size = ps.size)
    (I : σ → α → World → Prop) (J : σ → α → World → Prop) (E : World → Prop) (Ix : Code → World → Prop) (hI : ∀ s x, Stable2 w.heap.size (I s x)) (hJ : ∀ s x, Stable2 w.heap.size (J s x)) (hE : Stable2 w.heap.size E) (hIx : ∀ c, Stable2 w.heap.size (Ix c))
    (hround : ∀ (l : Nat) (s : σ) (x : α) (W : World), I s x W → assign.wpIn (F.inRound l) (n - 1 - 1) P (Exit.then (fun a' W' => W' = W ∧ ∀ W2, w.heap.size + 2 ≤ W2.heap.size → I s x W2 → body.wpIn (F.inRound l) (n - 1 - 1) P (rfPost w.heap.size (J s) Ix x W2) a' W2) (fun _ _ _ => False))
      { tmps := (ps.zip (encs x)).foldl (fun t (p, v) => t.setIfInBounds p v) a.tmps, defers := [] } W)
    (hseq : ∀ (l : Nat) (Lp : World → Prop) (Dn : Code → World → Prop) (W : World), Kept2 w.heap.size Lp → (∀ c, Kept2 w.heap.size (Dn c)) →
      (∀ s x W, I s x W → Lp W → YieldAt F (n - 1 - 1) P l (encs x) W fun e W' => (e = .returned (.bool true) ∧ J s x W' ∧ Lp W') ∨ (e = .returned (.bool false) ∧ ∃ c, Ix c W' ∧ Dn c W')) →
      Below w.heap.size w W → W.heap.size = w.heap.size + 2 → Lp W →
      CallsIn F (n - 1) P gf (#[.func (.yield l) #[] #[]] ++ lb) W fun e W' => (∃ v, e = .returned v) ∧ ((E W' ∧ Lp W') ∨ ∃ c, Ix c W' ∧ Dn c W'))
    (hdone : ∀ (W : World), E W → W.heap[w.heap.size]? = some (.deferred (some [])) → Q .normal { a with defers := { target := .collected w.heap.size, args := #[] } :: a.defers } W)
    (hstop : ∀ (c : Code) (W : World), Ix c W → W.heap[w.heap.size]? = some (.deferred (some [])) → c.wpIn F n P Q { a with defers := { target := .collected w.heap.size, args := #[] } :: a.defers } W) :
    (Code.rangeFunc g ps assign body).wpIn F n P Q a w := by
  refine wpIn_rangeFunc ?_
  intro fn hfn
  rw [hro]
  obtain ⟨rec, hrec⟩ : ∃ rec : LoopState → Option Code → Loop, rec = fun st pe => { state := st, pending := pe, fn, tmps := a.tmps, params := ps, assign, body, defers := w.heap.size } := ⟨_, rfl⟩
  obtain ⟨W1, hW1⟩ : ∃ W1, (w.alloc (.deferred (some []))).alloc (.loop (rec .ready none)) = W1 := ⟨_, rfl⟩
  have hL1 : W1.heap[w.heap.size + 1]? = some (.loop (rec .ready none)) := by
    rw [← hW1]; have := World.alloc_heap_new (w.alloc (.deferred (some []))) (.loop (rec .ready none)); rwa [World.size_alloc] at this
  have hK1 : W1.heap[w.heap.size]? = some (.deferred (some [])) := by
    rw [← hW1]; exact (Below.heap_alloc _ _ _ (by simp)).trans (World.alloc_heap_new w _)
  have hb1 : Below w.heap.size w W1 := by
    rw [← hW1]; exact ((Below.refl _ w).alloc (Nat.le_refl _) _).alloc (by simp) _
  refine ⟨w.heap.size + 1, [{ target := .collected w.heap.size, args := #[] }], W1, { target := .fn (.func gf) lb, args := #[.func (.yield (w.heap.size + 1)) #[] #[]] }, W1, gf,
    #[.func (.yield (w.heap.size + 1)) #[] #[]] ++ lb, W1, ?_, ?_, ?_, ?_, fun _ => h1, ?_⟩
  · rw [← hW1, hrec]; exact run_enterLoop_outer _ _ _ _ _
  · simp only [resolve, hg]
    simp [go_sem]
  · intro f' hf'; simp [Target.leads] at hf'; subst hf'; exact hFg
  · simp [invoke, go_sem, eg]
  · refine (hseq (w.heap.size + 1) (fun W => W.heap[w.heap.size + 1]? = some (.loop (rec .ready none)) ∧ W.heap[w.heap.size]? = some (.deferred (some [])))
      (fun c W => W.heap[w.heap.size + 1]? = some (.loop (rec .done (some c))) ∧ W.heap[w.heap.size]? = some (.deferred (some []))) W1 (kept2_heap rfl rfl) (fun _ => kept2_heap rfl rfl) ?_ hb1 (by rw [← hW1]; simp) ⟨hL1, hK1⟩).mono ?_
    · rintro s x W hi ⟨hl, hk⟩
      have hlt : w.heap.size + 1 < W.heap.size := (Array.getElem?_eq_some_iff.1 hl).1
      have hy := run_yield (P := P) (args := encs x) hl (by rw [hrec]; exact hps x)
      rw [hrec] at hy
      refine ⟨fn, _, assign, body, hy, roundIn_of_wpIn hfn (wpIn_mono (hround _ s x W hi) ?_)⟩
      intro e1 a1 W1' h1'
      obtain ⟨rfl, hWW, hbody⟩ : e1 = .normal ∧ W1' = W ∧ ∀ W2, w.heap.size + 2 ≤ W2.heap.size → I s x W2 → body.wpIn (F.inRound (w.heap.size + 1)) (n - 1 - 1) P (rfPost w.heap.size (J s) Ix x W2) a1 W2 := by
        cases e1 with
        | normal => exact ⟨rfl, h1'⟩
        | ret => exact h1'.elim
        | exit id => exact h1'.elim
        | goto t => exact h1'.elim
        | panic ch => exact h1'.elim
        | outgrown => exact h1'.elim
      have hW2 := hWW.symm
      subst hW2
      refine ⟨_, run_beginRound hl (by rw [hrec]), ?_⟩
      have hl2 : (W.putObj (w.heap.size + 1) (.loop { rec .ready none with state := .busy })).heap[w.heap.size + 1]? = some (.loop { rec .ready none with state := .busy }) := World.putObj_heap_same hlt
      have hk2 : (W.putObj (w.heap.size + 1) (.loop { rec .ready none with state := .busy })).heap[w.heap.size]? = some (.deferred (some [])) := (World.putObj_heap_other (by omega)).trans hk
      refine wpIn_mono (hbody _ (by simp; omega) (hI s x _ _ hi (Chg.putObj _ _ hl rfl (.inr rfl)))) ?_
      have fin : ∀ (jump : Option Code) (W3 : World), W3.heap[w.heap.size]? = (W.putObj (w.heap.size + 1) (.loop { rec .ready none with state := .busy })).heap[w.heap.size]? →
          W3.heap[w.heap.size + 1]? = (W.putObj (w.heap.size + 1) (.loop { rec .ready none with state := .busy })).heap[w.heap.size + 1]? →
          (Instr.endRound (w.heap.size + 1) jump).run P W3 = .ok (.bool jump.isNone) (W3.putObj (w.heap.size + 1) (.loop (rec (if jump.isNone then .ready else .done) jump))) ∧
          W3.heap[w.heap.size + 1]? = some (.loop { rec .ready none with state := .busy }) ∧
          (W3.putObj (w.heap.size + 1) (.loop (rec (if jump.isNone then .ready else .done) jump))).heap[w.heap.size + 1]? = some (.loop (rec (if jump.isNone then .ready else .done) jump)) ∧
          (W3.putObj (w.heap.size + 1) (.loop (rec (if jump.isNone then .ready else .done) jump))).heap[w.heap.size]? = some (.deferred (some [])) := fun jump W3 e1 e2 => by
        have hl3 := e2.trans hl2
        have := run_endRound (P := P) jump hl3
        rw [hrec] at this ⊢
        exact ⟨this, by rw [hrec] at hl3; exact hl3, World.putObj_heap_same (Array.getElem?_eq_some_iff.1 hl3).1, (World.putObj_heap_other (by omega)).trans (e1.trans hk2)⟩
      intro e a3 W3 hp
      cases e with
      | normal =>
        obtain ⟨e1, e2, hi3⟩ := hp
        obtain ⟨hr, hl3, hl4, hk4⟩ := fin none W3 e1 e2
        exact ⟨_, _, hr, .inl ⟨rfl, hJ s x _ _ hi3 (Chg.putObj _ _ hl3 rfl (.inr rfl)), hl4, hk4⟩⟩
      | ret =>
        obtain ⟨e1, e2, hi3⟩ := hp
        obtain ⟨hr, hl3, hl4, hk4⟩ := fin (some .ret) W3 e1 e2
        exact ⟨_, _, hr, .inr ⟨rfl, .ret, hIx _ _ _ hi3 (Chg.putObj _ _ hl3 rfl (.inr rfl)), hl4, hk4⟩⟩
      | exit id =>
        obtain ⟨e1, e2, hi3⟩ := hp
        obtain ⟨hr, hl3, hl4, hk4⟩ := fin (some (.exit id)) W3 e1 e2
        exact ⟨_, _, hr, .inr ⟨rfl, .exit id, hIx _ _ _ hi3 (Chg.putObj _ _ hl3 rfl (.inr rfl)), hl4, hk4⟩⟩
      | goto t =>
        obtain ⟨e1, e2, hi3⟩ := hp
        obtain ⟨hr, hl3, hl4, hk4⟩ := fin (some (.goto t)) W3 e1 e2
        exact ⟨_, _, hr, .inr ⟨rfl, .goto t, hIx _ _ _ hi3 (Chg.putObj _ _ hl3 rfl (.inr rfl)), hl4, hk4⟩⟩
      | panic ch => exact hp.elim
      | outgrown => exact hp.elim
    · rintro e W2 ⟨⟨v, rfl⟩, (⟨hi, hl, hk⟩ | ⟨c, hi, hl, hk⟩)⟩
      · exact ⟨none, _, by have := run_endLoop (P := P) hl (by rw [hrec]; simp); rw [hrec] at this; exact this, hdone _ (hE _ _ hi (Chg.putObj _ _ hl rfl (.inr rfl))) ((World.putObj_heap_other (by omega)).trans hk)⟩
      · exact ⟨some c, _, by have := run_endLoop (P := P) hl (by rw [hrec]; simp); rw [hrec] at this; exact this, hstop c _ (hIx c _ _ hi (Chg.putObj _ _ hl rfl (.inr rfl))) ((World.putObj_heap_other (by omega)).trans hk)⟩
/-- append inside a fence -/
theorem wpListIn_appendG {F : Fence} {n : Nat} {P : Program} {α : Type} {enc : α → List Value} {sz bytes : Nat} {t e : TypeId} {w : World} (T : SlTy P t e sz bytes) (h0 : 0 < sz) (hsz : ∀ x, (enc x).length = sz) (h1 : ∀ x, ∀ v ∈ enc x, v.oneCell' = true) {ops : Array Oper} {rest : List Oper} {o : Oper} {a : Act} {Q : Exit → Act → World → Prop} (hgd : o.guard = none) (s x : Operand)
    (ho : o.op = .call { callee := .builtin .append, args := #[s, x], argTypes := #[t, t] }) (A : Option Addr) (c : Nat) (l : List α) (hs : a.eval s = .slice A l.length c) (h : GSl enc sz e w A c l)
    (B : Option Addr) (cB : Nat) (m : List α) (hx : a.eval x = .slice B m.length cB) (hm : RdS enc sz w B m) (h63 : l.length + m.length ≤ maxLen) (hbytes : (l.length + m.length) * bytes ≤ 140737488355328)
    (hK : ∀ A' c' w', GSl enc sz e w' A' c' (l ++ m) → Chg (slFp sz A l.length c) w w' → ((A' = A ∧ c' = c) ∨ ∃ g, A' = some ⟨g, 0, none⟩ ∧ w.heap.size ≤ g) → wpListIn F n P ops Q rest (a.put o.dst (.slice A' (l ++ m).length c')) w') : wpListIn F n P ops Q (o :: rest) a w := by
  refine wpListIn_plain hgd fun K hK' => ?_
  obtain ⟨A', c', w', hrun, g1, g2, g3⟩ := run_appendG (P := P) T h0 hsz h1 o.type h cB hm h63 hbytes
  unfold Oper.wpIn
  refine ⟨?_, ?_⟩
  · simp [Oper.about, ho, resolve, Target.leads, Sem.run_pure]
  · rw [Oper.semAt_plain F _ _ (by rw [ho]; intro c hc'; cases hc')]
    simp [execOp, ho, resolve, invoke, builtin, hs, hx, hrun, Result.andThen]
    have h9 := hK' _ _ (hK A' c' w' g1 g2 g3)
    rw [List.length_append] at h9
    exact h9
/-! ### a region that draws its order, within a round: by the plain laws -/
theorem op_round {n l : Nat} {P : Program} {o : Oper} {a : Act} {w : World} {K : Act → World → Prop} {Q : Exit → Act → World → Prop} (hd : ∀ c, o.op ≠ .defer c) (h : o.wp P a w K Q) : o.wpIn (Fence.wide.inRound l) n P a w K Q := by
  unfold Oper.wpIn
  refine ⟨fun _ _ => trivial, ?_⟩
  rw [Oper.semAt_plain _ _ _ hd]
  unfold Oper.wp at h
  generalize (execOp a.eval o).run P w = r at *
  cases r with
  | ok x w' =>
    cases x with
    | value v => exact h
    | skip => exact h
    | defer d => exact h
    | enter f args => exact ⟨(fun h => by cases h), CallsIn.inRound l (callsIn_wide.2 h)⟩
    | row row args => exact ⟨(fun h => by cases h), fun c cs _ => let ⟨v, w', r, s⟩ := h c cs; ⟨v, w', r, stepsIn_wide.2 s⟩⟩
    | _ => exact h.elim
  | halt x w' => cases x <;> exact h
theorem opIn_round {n l i : Nat} {P : Program} {ops : Array Oper} {a : Act} {w : World} {K : Act → World → Prop} {Q : Exit → Act → World → Prop} (hd : ∀ o ∈ ops.toList, ∀ c, o.op ≠ .defer c) (hL : ¬ LetsOut Q) (h : wpOp P ops Q i K a w) : wpOpIn (Fence.wide.inRound l) n P ops Q i K a w := by
  unfold wpOp at h
  unfold wpOpIn
  split
  · rename_i hn
    simpa [hn] using h
  · rename_i o ho
    simp only [ho] at h
    split
    · rename_i hw
      simp only [hw, if_true] at h
      rcases h with h | h
      · exact op_round (hd o (by rw [Array.getElem?_eq_some_iff] at ho; obtain ⟨h1, h2⟩ := ho; rw [← h2]; exact Array.getElem_mem_toList h1)) h
      · exact absurd h.2 hL
    · rename_i hw
      simp only [hw] at h
      exact ⟨fun _ _ => trivial, h⟩
theorem any_round {n l : Nat} {P : Program} {ops : Array Oper} {md : Region.Mode} {Q : Exit → Act → World → Prop} (hd : ∀ o ∈ ops.toList, ∀ c, o.op ≠ .defer c) (hL : ¬ LetsOut Q) : ∀ (fuel : Nat) (listed : Array Bool) (a : Act) (w : World), wpAny P md ops Q fuel listed a w → wpAnyIn (Fence.wide.inRound l) n P md ops Q fuel listed a w
  | 0, _, _, _, h => h
  | fuel + 1, _, _, _, h => ⟨h.1, fun i hi => wpOpIn_mono (fun a' w' h' => any_round hd hL fuel _ a' w' h') (opIn_round hd hL (h.2 i hi))⟩
/-- the region, held to a condition on the world -/
theorem region_round {n l id : Nat} {P : Program} {ops : Array Oper} {Q : Exit → Act → World → Prop} {a : Act} {w : World} (S : World → Prop) (hm : P.follows .mixedOrders = true) (hd : (ops.toList.all fun o => match o.op with | .defer _ => false | _ => true) = true) (hL : ¬ LetsOut Q)
    (h : wpAnyH P .any ops Q S ops.size (Array.replicate ops.size false) a w.drew) : (Code.region id ops true).wpIn (Fence.wide.inRound l) n P Q a w :=
  wpIn_region_any hm (any_round (fun o ho c e => by have := List.all_eq_true.1 hd o ho; rw [e] at this; cases this) hL _ _ _ _ (wpAny_of_held _ _ _ _ h))
end Go.Proofs.YtdhccjmokmdboaaDoor
