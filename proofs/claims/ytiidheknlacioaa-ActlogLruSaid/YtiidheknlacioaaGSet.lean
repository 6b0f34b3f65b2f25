/- A slice in a row: one cell, one element is written. Nothing here is about the program's functions. -/
import Derived.Test.YtiidheknlacioaaHeap
import Derived.WalkKit
import Derived.KernelRfl
import Derived.Lib.Hide
import Derived.Deep.QuietTactic
import Derived.BigQuiet
import Derived.Outline
import Derived.StillTailTactics
import Derived.Deep.RegionHeld3
import Derived.Deep.DeepCutAuto
import Derived.Deep.CutBlock
namespace Go.Proofs.Ytiidheknlacioaa
open Go.RowKit
theorem step_store_mid {P : Program} {w : World} {ops : Array Oper} {o : Oper} {a : Act} {K : Act → World → Prop} {Q : Exit → Act → World → Prop} {E : Prop} (hgd : o.guard = none) (ty : TypeId) (x y : Operand) (ho : o.op = .store ty x y)
    (b off : Nat) (cells : Array Value) (hx : a.eval x = .pointer (some ⟨b, off, none⟩)) (hy : a.eval y = .agg cells) (ht : w.there b off cells.size) (hi : (P.info? ty).map (·.size) = some cells.size) (h1 : cells.all (·.oneCell') = true)
    (h : K (a.put o.dst undef) (w.setCells b off cells.toList)) : if Region.wanted o (yielded ops a.tmps) = true then Oper.wp P o a w K Q else E := by
  rw [if_pos (by simp [Region.wanted, hgd])]
  exact wp_store_mid ty x y ho b off cells hx hy ht hi h1 h
/-- an element of a slice is written -/
theorem GSl.setEl {α : Type} {enc : α → List Value} {sz : Nat} {e : TypeId} {w : World} {g o c : Nat} {l : List α} (h : GSl enc sz e w (some ⟨g, o, none⟩) c l) (hsz : ∀ x, (enc x).length = sz) {i : Nat} (hi : i < l.length) (y : α) :
    GSl enc sz e (w.setCells g (o + i * sz) (enc y)) (some ⟨g, o, none⟩) c (l.set i y) ∧ w.there g (o + i * sz) sz ∧ Chg (slFp sz (some ⟨g, o, none⟩) 0 l.length) w (w.setCells g (o + i * sz) (enc y)) := by
  rcases h with ⟨h, _⟩ | ⟨g', o', cs, ha, k1, k2, k3, k4, k5⟩
  · cases h
  cases ha
  have hic : (i + 1) * sz ≤ l.length * sz := Nat.mul_le_mul_right _ hi
  have hlc : l.length * sz ≤ c * sz := Nat.mul_le_mul_right _ k1
  rw [Nat.add_mul] at hic
  obtain ⟨cs', r1, r2, r3, r4⟩ := setCells_row (enc y) (o + i * sz) w g cs e (0, 0) k3
  refine ⟨.inr ⟨g, o, cs', rfl, by rw [List.length_set]; exact k1, k2, r1, by omega, fun k z hz q v hv => ?_⟩, fun j hj => ⟨?_, by simp [World.frozen?, k3]⟩, setCells_chg _ _ _ _ _ fun k hk1 hk2 => ⟨o, rfl, by omega, by rw [hsz] at hk2; omega⟩⟩
  · have hk := (List.getElem?_eq_some_iff.1 hz).1
    have hq := (List.getElem?_eq_some_iff.1 hv).1
    rw [hsz] at hq
    rw [List.length_set] at hk
    by_cases e1 : k = i
    · subst e1
      rw [List.getElem?_set_self hi] at hz
      cases hz
      have := r4 (by rw [hsz]; omega) q v hv
      rwa [Nat.add_assoc] at this
    · rw [List.getElem?_set_ne (fun e => e1 e.symm)] at hz
      rw [r3 _ (by
        rw [hsz]
        rcases Nat.lt_or_ge k i with h | h
        · have : (k + 1) * sz ≤ i * sz := Nat.mul_le_mul_right _ h
          rw [Nat.add_mul] at this
          omega
        · have : (i + 1) * sz ≤ k * sz := Nat.mul_le_mul_right _ (by omega)
          rw [Nat.add_mul] at this
          omega)]
      exact k5 k z hz q v hv
  · rw [cell_of_row w g _ cs e (0, 0) k3, Array.getElem?_eq_getElem (by omega)]
    rfl
theorem GSl.setAt {α : Type} {enc : α → List Value} {sz : Nat} {e : TypeId} {w : World} {g o c : Nat} {l : List α} (h : GSl enc sz e w (some ⟨g, o, none⟩) c l) (hsz : ∀ x, (enc x).length = sz) {i j : Nat} {x y : α} {u : Value} (hx : l[i]? = some x) (hj : j < sz) (he : enc y = (enc x).set j u) :
    GSl enc sz e (w.setCell ⟨g, o + (i * sz + j), none⟩ u) (some ⟨g, o, none⟩) c (l.set i y) := by
  rcases h with ⟨h, _⟩ | ⟨g', o', cs, ha, k1, k2, k3, k4, k5⟩
  · cases h
  cases ha
  have hi := (List.getElem?_eq_some_iff.1 hx).1
  have hic : (i + 1) * sz ≤ c * sz := Nat.mul_le_mul_right _ (by omega)
  rw [Nat.add_mul] at hic
  refine .inr ⟨g, o, cs.setIfInBounds (o + (i * sz + j)) u, rfl, by rw [List.length_set]; exact k1, k2, by simp [World.setCell, Array.getElem?_modify, k3], by simpa using k4, fun k z hz q v hv => ?_⟩
  have hk := (List.getElem?_eq_some_iff.1 hz).1
  have hq := (List.getElem?_eq_some_iff.1 hv).1
  rw [hsz] at hq
  rw [List.length_set] at hk
  by_cases e1 : k = i
  · subst e1
    rw [List.getElem?_set_self hi] at hz
    cases hz
    rw [he] at hv
    by_cases e2 : q = j
    · subst e2
      rw [List.getElem?_set_self (by rw [hsz]; exact hq)] at hv
      rw [Array.getElem?_setIfInBounds_self_of_lt (by omega)]
      exact hv
    · rw [List.getElem?_set_ne (fun e => e2 e.symm)] at hv
      rw [Array.getElem?_setIfInBounds_ne (by omega)]
      exact k5 k x hx q v hv
  · rw [List.getElem?_set_ne (fun e => e1 e.symm)] at hz
    rw [Array.getElem?_setIfInBounds_ne (by
      rcases Nat.lt_or_ge k i with h | h
      · have : (k + 1) * sz ≤ i * sz := Nat.mul_le_mul_right _ h
        rw [Nat.add_mul] at this
        omega
      · have : (i + 1) * sz ≤ k * sz := Nat.mul_le_mul_right _ (by omega)
        rw [Nat.add_mul] at this
        omega)]
    exact k5 k z hz q v hv
theorem slFp_len {α : Type} {enc : α → List Value} {e : TypeId} {w : World} {sz : Nat} {A : Option Addr} {c : Nat} {l : List α} (h : GSl enc sz e w A c l) {g i : Nat} (hs : slFp sz A 0 l.length g i) : slFp sz A 0 c g i := by
  obtain ⟨o, ho, h1, h2⟩ := hs
  exact ⟨o, ho, h1, Nat.lt_of_lt_of_le h2 (by have := Nat.mul_le_mul_right sz h.le; omega)⟩
theorem slFp_lt {α : Type} {enc : α → List Value} {e : TypeId} {w : World} {sz : Nat} {A : Option Addr} {c : Nat} {l : List α} (h : GSl enc sz e w A c l) {g i : Nat} (hs : slFp sz A 0 c g i) : g < w.heap.size := by
  obtain ⟨o, ho, _⟩ := hs
  rcases h with ⟨rfl, _⟩ | ⟨g', o', cs, rfl, _, _, hb, _⟩
  · cases ho
  · cases ho; exact Chg.lt hb
/-- the row's block has its elements' type -/
theorem slFp_type {α : Type} {enc : α → List Value} {e : TypeId} {w : World} {sz : Nat} {A : Option Addr} {c : Nat} {l : List α} (h : GSl enc sz e w A c l) {g i t : Nat} {cs : Array Value} (hs : slFp sz A 0 c g i) (hb : Blk w g t cs) : t = e := by
  obtain ⟨o, ho, _⟩ := hs
  rcases h with ⟨rfl, _⟩ | ⟨g', o', cs', rfl, _, _, hb', _⟩
  · cases ho
  · cases ho
    unfold Blk at hb
    rw [hb'] at hb
    cases hb
    rfl
theorem slFp_cells {α : Type} {enc : α → List Value} {e : TypeId} {w : World} {sz : Nat} {A : Option Addr} {c : Nat} {l : List α} (h : GSl enc sz e w A c l) {g i : Nat} (hs : slFp sz A 0 c g i) : ∃ cs, Blk w g e cs := by
  obtain ⟨o, ho, _⟩ := hs
  rcases h with ⟨rfl, _⟩ | ⟨g', o', cs', rfl, _, _, hb', _⟩
  · cases ho
  · cases ho
    exact ⟨cs', hb'⟩
theorem results_tmp5 {fn : Func} {t u v x y : Tmp} (h : fn.results = #[.tmp t, .tmp u, .tmp v, .tmp x, .tmp y]) (tmps : Array Value) (P : Program) (w : World) :
    (results fn tmps).run P w = .ok (.tuple #[tmps.getD t undef, tmps.getD u undef, tmps.getD v undef, tmps.getD x undef, tmps.getD y undef]) w := by
  simp [results, h]
theorem wf64 {n : Int} (h : -9223372036854775808 ≤ n ∧ n ≤ 9223372036854775807) : (Lit.int .i64 n).wf = true := by
  simp only [Lit.wf, IntKind.min, IntKind.max, IntKind.signed, IntKind.bits, Bool.and_eq_true, decide_eq_true_eq, if_true]
  omega
theorem wf64_ {n : Int} (h : (Lit.int .i64 n).wf = true) : -9223372036854775808 ≤ n ∧ n ≤ 9223372036854775807 := by
  simp only [Lit.wf, IntKind.min, IntKind.max, IntKind.signed, IntKind.bits, Bool.and_eq_true, decide_eq_true_eq, if_true] at h
  omega
/-- numbers of places as cells -/
def encN (n : Nat) : List Value := [.int .i64 n]
theorem encN_len (n : Nat) : (encN n).length = 1 := rfl
theorem encN_one (n : Nat) : ∀ v ∈ encN n, v.oneCell' = true := fun v hv => by obtain rfl := List.mem_singleton.1 hv; rfl

/-! ### a map from keys to places -/
/-- the keys' kind: how a key lies, how it reads in the map's datum -/
structure KeyW (P : Program) (kt : TypeId) (kV : Int → Value) (kL : Int → Lit) (ok : Int → Prop) : Prop where
  keyed : Maps.Keyed P kt
  key : ∀ x, ok x → keyOf P kt (kV x) = some (kL x)
  inj : ∀ x y, ok x → ok y → kL x = kL y → x = y
  isK : ∀ x, ok x → WideAt.IsKeyLit (kL x)
def IMap (P : Program) (kt : TypeId) (kL : Int → Lit) (ok : Int → Prop) (w : World) (b n : Nat) (f : Int → Option Nat) : Prop :=
  ∃ D : DataW Unit, w.ownsMap P kt (plainElem P 3) b n D ∧ ∀ x, ok x → Maps.has D (kL x) = (f x).isSome ∧ ∀ i, f x = some i → ∀ z, D.atKey (kL x) z = .lit (.int .i64 i)
section
variable {P : Program} {kt t : TypeId} {kV : Int → Value} {kL : Int → Lit} {ok : Int → Prop} {w w' : World} {b n : Nat} {f : Int → Option Nat}
theorem IMap.lt (h : IMap P kt kL ok w b n f) : b < w.heap.size := by obtain ⟨D, h, _⟩ := h; exact h.lt
theorem IMap.made (P : Program) (kt : TypeId) (kL : Int → Lit) (ok : Int → Prop) (w : World) : IMap P kt kL ok (w.alloc (.map #[] 0)) w.heap.size 0 (fun _ => none) := ⟨_, World.ownsMap_made w P kt _, fun _ _ => ⟨rfl, fun _ h => by cases h⟩⟩
theorem IMap.keep (h : IMap P kt kL ok w b n f) (hk : w'.heap[b]? = w.heap[b]?) : IMap P kt kL ok w' b n f := by
  obtain ⟨D, ⟨es, clock, h1, h2⟩, h3⟩ := h
  exact ⟨D, ⟨es, clock, hk.trans h1, h2⟩, h3⟩
theorem IMap.chg {F : Nat → Nat → Prop} (h : IMap P kt kL ok w b n f) (hc : Chg F w w') (hn : ∀ i, ¬ F b i) : IMap P kt kL ok w' b n f := h.keep (hc.far b h.lt hn)
theorem IMap.not_cells (h : IMap P kt kL ok w b n f) {g t : Nat} {cs : Array Value} (hb : Blk w g t cs) : g ≠ b := by
  rintro rfl
  obtain ⟨D, ⟨es, clock, h1, _⟩, _⟩ := h
  unfold Blk at hb
  rw [h1] at hb
  cases hb
theorem Chg.of_imap {F : Nat → Nat → Prop} (h : IMap P kt kL ok w b n f) (hg : w.grownBy w' (some b)) (hF : F b 0) : Chg F w w' :=
  ⟨hg.os, hg.tape, hg.output, hg.size, fun j hj hn => hg.block j hj (by intro e; cases e; exact hn 0 hF), fun j cs t fr hc => by
    refine ⟨cs, (hg.block j (Chg.lt hc) ?_).trans hc, rfl, fun _ _ => rfl⟩
    intro e
    cases e
    obtain ⟨D, ⟨es, clock, h1, _⟩, _⟩ := h
    rw [h1] at hc
    cases hc⟩
theorem IMap.look (K : KeyW P kt kV kL ok) (h : IMap P kt kL ok w b n f) (hi : P.underlying 3 = some (.int .i64)) (ht : P.underlying t = some (.map kt 3)) (hz : (zeroValue 3).run P w = .ok (.int .i64 0) w) {x : Int} (hx : ok x) :
    (Instr.lookup t (.map (some b)) (kV x) true).run P w = .ok (.tuple #[.int .i64 (((f x).getD 0 : Nat) : Int), .bool (f x).isSome]) w := by
  obtain ⟨D, h1, h2⟩ := h
  obtain ⟨v, ps, hr, hv⟩ := h1.look_ok K.keyed ht hz (plainElem_int hi (by decide)) (K.key x hx)
  obtain ⟨e1, e2⟩ := h2 x hx
  rw [hr, e1]
  obtain ⟨c, rfl, hc, _⟩ := plainElem_int_inv hi hv
  have hc := congrArg Prod.fst hc
  dsimp only at hc
  cases hf : f x with
  | none =>
    rw [hf] at e1
    rw [Maps.atKey_of_not_has e1] at hc
    injection hc with hc
    injection hc with _ hc
    rw [← hc]
    rfl
  | some i =>
    rw [e2 i hf] at hc
    injection hc with hc
    injection hc with _ hc
    rw [← hc]
    rfl
theorem IMap.put (K : KeyW P kt kV kL ok) (h : IMap P kt kL ok w b n f) (hi : P.underlying 3 = some (.int .i64)) (ht : P.underlying t = some (.map kt 3)) (hn : n < maxLen) {x : Int} (hx : ok x) (i : Nat) (hw : (Lit.int .i64 (i : Int)).wf = true) :
    ∃ w', (Instr.mapUpdate t (.map (some b)) (kV x) (.int .i64 (i : Int))).run P w = .ok () w' ∧ IMap P kt kL ok w' b (n + 1) (setP f x (some i)) ∧ w.grownBy w' (some b) := by
  obtain ⟨D, h1, h2⟩ := h
  obtain ⟨w', hr, h3, h4⟩ := h1.update K.keyed ht hn (K.key x hx) (plainElem_int hi hw)
  refine ⟨w', hr, ⟨_, h3, fun y hy => ?_⟩, h4⟩
  unfold setP
  by_cases e : y = x
  · subst e
    rw [if_pos rfl]
    exact ⟨Maps.has_put_same h1.isMap (K.isK y hy) _, fun j hj z => by cases hj; exact Maps.atKey_put_same h1.isMap (K.isK y hy) _ _⟩
  · rw [if_neg e]
    have hne : kL y ≠ kL x := fun h => e (K.inj y x hy hx h)
    exact ⟨by rw [Maps.has_put_other hne]; exact (h2 y hy).1, fun j hj z => by rw [Maps.atKey_put_other hne]; exact (h2 y hy).2 j hj z⟩
theorem IMap.del (K : KeyW P kt kV kL ok) (h : IMap P kt kL ok w b n f) (ht : P.underlying t = some (.map kt 3)) {x : Int} (hx : ok x) (ty : TypeId) :
    ∃ w', (Builtin.delete_ #[t, kt] ty #[.map (some b), kV x]).run P w = .ok (.tuple #[]) w' ∧ IMap P kt kL ok w' b n (setP f x none) ∧ w.grownBy w' (some b) := by
  obtain ⟨D, h1, h2⟩ := h
  obtain ⟨w', hr, h3, h4⟩ := h1.drop K.keyed ht (K.key x hx) ty
  refine ⟨w', hr, ⟨_, h3, fun y hy => ?_⟩, h4.grown⟩
  unfold setP
  by_cases e : y = x
  · subst e
    rw [if_pos rfl]
    exact ⟨Maps.has_del_same, fun j hj => by cases hj⟩
  · rw [if_neg e]
    have hne : kL y ≠ kL x := fun h => e (K.inj y x hy hx h)
    exact ⟨by rw [Maps.has_del_other hne]; exact (h2 y hy).1, fun j hj z => by rw [Maps.atKey_del_other hne]; exact (h2 y hy).2 j hj z⟩
theorem wpList_delI {ops : Array Oper} {rest : List Oper} {o : Oper} {a : Act} {Q : Exit → Act → World → Prop} (hg : o.guard = none) (m x : Operand) (hop : o.op = Op.call { callee := Callee.builtin Builtin.delete, args := #[m, x], argTypes := #[t, kt] })
    (K : KeyW P kt kV kL ok) (ht : P.underlying t = some (.map kt 3)) (hm : a.eval m = .map (some b)) (h : IMap P kt kL ok w b n f) (id : Int) (hx : a.eval x = kV id) (hw : ok id)
    (hK : ∀ w', IMap P kt kL ok w' b n (setP f id none) → w.grownBy w' (some b) → wpList P ops Q rest (a.put o.dst (.tuple #[])) w') : wpList P ops Q (o :: rest) a w := by
  refine wpList_plain hg fun K' hK' => ?_
  obtain ⟨w', hrun, r1, r2⟩ := h.del K ht hw o.type
  unfold Oper.wp
  simp [execOp, hop, resolve, invoke, builtin, hm, hx, hrun, Result.andThen]
  exact hK' _ _ (hK w' r1 r2)
end
end Go.Proofs.Ytiidheknlacioaa
