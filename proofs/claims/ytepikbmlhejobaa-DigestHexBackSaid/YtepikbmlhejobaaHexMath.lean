/- What Hex writes is read back: the plain laws. -/
import Derived.Test.YtepikbmlhejobaaLawHex
import Derived.Test.YtepikbmlhejobaaLower
namespace Go.Proofs.Ytepikbmlhejobaa
open Go.RowKit

theorem strL_strOf (l : List UInt8) : strL (strOf l) = l := by simp [strL, strOf]
theorem all8 {p : UInt8 → Prop} (h : ∀ n : Fin 256, p (UInt8.ofNat n.1)) (b : UInt8) : p b := by
  have := h ⟨b.toNat, b.toNat_lt⟩
  rwa [UInt8.ofNat_toNat] at this
theorem byte_split (b : UInt8) : byteOf (b >>> 4).toNat (b &&& 15).toNat = b := all8 (p := fun b => byteOf (b >>> 4).toNat (b &&& 15).toNat = b) (by decide +kernel) b
theorem hexv_hexd (b : UInt8) : hexv (hexd (b >>> 4)) = (b >>> 4).toNat ∧ hexv (hexd (b &&& 15)) = (b &&& 15).toNat :=
  all8 (p := fun b => hexv (hexd (b >>> 4)) = (b >>> 4).toNat ∧ hexv (hexd (b &&& 15)) = (b &&& 15).toNat) (by decide +kernel) b
theorem hexv_uppB (b : UInt8) : hexv (uppB (hexd (b >>> 4))) = (b >>> 4).toNat ∧ hexv (uppB (hexd (b &&& 15))) = (b &&& 15).toNat :=
  all8 (p := fun b => hexv (uppB (hexd (b >>> 4))) = (b >>> 4).toNat ∧ hexv (uppB (hexd (b &&& 15))) = (b &&& 15).toNat) (by decide +kernel) b
theorem hexd_hexv (c : UInt8) : hexv c < 16 → hexd (UInt8.ofNat (hexv c)) = lowB c := all8 (p := fun c => hexv c < 16 → hexd (UInt8.ofNat (hexv c)) = lowB c) (by decide +kernel) c
theorem lowB_zero (c : UInt8) : lowB c = 48 → hexv c < 16 := all8 (p := fun c => lowB c = 48 → hexv c < 16) (by decide +kernel) c
theorem byteOf_parts (a b : Nat) (ha : a < 16) (hb : b < 16) : byteOf a b >>> 4 = UInt8.ofNat a ∧ byteOf a b &&& 15 = UInt8.ofNat b := by
  have h : ∀ (x y : Fin 16), byteOf x.1 y.1 >>> 4 = UInt8.ofNat x.1 ∧ byteOf x.1 y.1 &&& 15 = UInt8.ofNat y.1 := by decide +kernel
  exact h ⟨a, ha⟩ ⟨b, hb⟩
theorem hexOf_at : ∀ {l : List UInt8} {i : Nat} {b : UInt8}, l[i]? = some b → (hexOf l)[2 * i]? = some (hexd (b >>> 4)) ∧ (hexOf l)[2 * i + 1]? = some (hexd (b &&& 15))
  | [], i, b, h => by simp at h
  | x :: l, 0, b, h => by simp at h; subst h; exact ⟨rfl, rfl⟩
  | x :: l, i + 1, b, h => by
    have h2 := hexOf_at (l := l) (i := i) (b := b) (by simpa using h)
    have e : hexOf (x :: l) = hexd (x >>> 4) :: hexd (x &&& 15) :: hexOf l := rfl
    rw [e, show 2 * (i + 1) = 2 * i + 1 + 1 from by omega, show 2 * i + 1 + 1 + 1 = (2 * i + 1) + 1 + 1 from rfl]
    simpa using h2
theorem back_at (f : UInt8 → UInt8) (hf : ∀ b : UInt8, hexv (f (hexd (b >>> 4))) = (b >>> 4).toNat ∧ hexv (f (hexd (b &&& 15))) = (b &&& 15).toNat) (l : List UInt8) (hl : l.length = 32) :
    unhexT ((hexOf l).map f) = l ∧ unhexE ((hexOf l).map f) = 0 := by
  have hat : ∀ (i : Nat) (b : UInt8), l[i]? = some b → ((hexOf l).map f).getD (2 * i) 0 = f (hexd (b >>> 4)) ∧ ((hexOf l).map f).getD (2 * i + 1) 0 = f (hexd (b &&& 15)) := by
    intro i b h
    obtain ⟨h1, h2⟩ := hexOf_at h
    rw [List.getD_eq_getElem?_getD, List.getD_eq_getElem?_getD, List.getElem?_map, List.getElem?_map, h1, h2]
    exact ⟨rfl, rfl⟩
  have hok : hexOk ((hexOf l).map f) = true := hexOk_yes (by rw [List.length_map, hexOf_length, hl]) fun i hi => by
    obtain ⟨b, hb⟩ : ∃ b, l[i / 2]? = some b := ⟨_, List.getElem?_eq_getElem (by omega)⟩
    obtain ⟨h1, h2⟩ := hat _ b hb
    rcases (show i = 2 * (i / 2) ∨ i = 2 * (i / 2) + 1 from by omega) with e | e
    · rw [e, h1, (hf b).1]; exact shr4_lt b
    · rw [e, h2, (hf b).2]; exact and15_lt b
  refine ⟨?_, by unfold unhexE; rw [hok]; rfl⟩
  unfold unhexT
  rw [hok, if_pos rfl]
  refine List.ext_getElem? fun k => ?_
  rcases Nat.lt_or_ge k 32 with hk | hk
  · obtain ⟨b, hb⟩ : ∃ b, l[k]? = some b := ⟨_, List.getElem?_eq_getElem (by omega)⟩
    obtain ⟨h1, h2⟩ := hat _ b hb
    rw [decOf_get hk, hb, decAt, h1, h2, (hf b).1, (hf b).2, byte_split]
  · rw [List.getElem?_eq_none (by simp [decOf]; omega), List.getElem?_eq_none (by omega)]
theorem back_small (l : List UInt8) (hl : l.length = 32) : unhexT (hexOf l) = l ∧ unhexE (hexOf l) = 0 := by
  have := back_at id (fun b => hexv_hexd b) l hl
  rwa [List.map_id] at this
theorem back_cap (l : List UInt8) (hl : l.length = 32) : unhexT ((hexOf l).map uppB) = l ∧ unhexE ((hexOf l).map uppB) = 0 := back_at uppB hexv_uppB l hl
/-- a text that is read is what Hex writes, in small letters -/
theorem read_small (m : List UInt8) (h : hexOk m = true) : hexOf (unhexT m) = m.map lowB := by
  have h0 := h
  unfold hexOk at h
  rw [Bool.and_eq_true, beq_iff_eq, List.all_eq_true] at h
  obtain ⟨hl, hall⟩ := h
  have ht : unhexT m = decOf m := by unfold unhexT; rw [h0]; rfl
  rw [ht]
  have hd : (decOf m).length = 32 := by simp [decOf]
  refine List.ext_getElem? fun j => ?_
  rcases Nat.lt_or_ge j 64 with hj | hj
  · obtain ⟨x, hx⟩ : ∃ x, m[2 * (j / 2)]? = some x := ⟨_, List.getElem?_eq_getElem (by omega)⟩
    obtain ⟨y, hy⟩ : ∃ x, m[2 * (j / 2) + 1]? = some x := ⟨_, List.getElem?_eq_getElem (by omega)⟩
    have hx1 : hexv x < 16 := of_decide_eq_true (hall x (List.mem_of_getElem? hx))
    have hy1 : hexv y < 16 := of_decide_eq_true (hall y (List.mem_of_getElem? hy))
    have hg := decOf_get (l := m) (k := j / 2) (by omega)
    have hdec : decAt m (j / 2) = byteOf (hexv x) (hexv y) := by unfold decAt; rw [List.getD_eq_getElem?_getD, hx, List.getD_eq_getElem?_getD, hy]; rfl
    rw [hdec] at hg
    obtain ⟨h1, h2⟩ := hexOf_at hg
    obtain ⟨p1, p2⟩ := byteOf_parts _ _ hx1 hy1
    rw [p1, hexd_hexv x hx1] at h1
    rw [p2, hexd_hexv y hy1] at h2
    rw [List.getElem?_map]
    rcases (show j = 2 * (j / 2) ∨ j = 2 * (j / 2) + 1 from by omega) with e | e
    · rw [e, h1, hx]; rfl
    · rw [e, h2, hy]; rfl
  · rw [List.getElem?_eq_none (by rw [hexOf_length]; omega), List.getElem?_eq_none (by rw [List.length_map]; omega)]
/-- a text of 64 letters that is not read is not what Hex writes of zeroes -/
theorem read_not (m : List UInt8) (h : hexOk m = false) (hl : m.length = 64) : m.map lowB ≠ hexOf zero32 := by
  intro e
  have hk : hexOk m = true := hexOk_yes hl fun i hi => by
    have hx : m[i]? = some m[i] := List.getElem?_eq_getElem (by omega)
    have h1 : (m.map lowB)[i]? = some (lowB m[i]) := by rw [List.getElem?_map, hx]; rfl
    rw [e, show hexOf zero32 = List.replicate 64 48 from by decide, List.getElem?_replicate, if_pos hi] at h1
    rw [List.getD_eq_getElem?_getD, hx]
    exact lowB_zero _ (by simpa using h1.symm)
  rw [hk] at h
  cases h
theorem strOf_inj {a b : List UInt8} (h : strOf a = strOf b) : a = b := by
  have := congrArg strL h
  rwa [strL_strOf, strL_strOf] at this

theorem strOf_size (l : List UInt8) : (strOf l).size = l.length := by
  have := strL_length (strOf l)
  rw [strL_strOf] at this
  exact this.symm
section
variable {P : Program} {w : World}
/-- a whole variable is read, at a step of a region that draws its order -/
theorem step_load_blk {ops : Array Oper} {o : Oper} {a : Act} {K : Act → World → Prop} {Q : Exit → Act → World → Prop} {E : Prop} (hw : Region.wanted o (yielded ops a.tmps) = true) (ty : TypeId) (x : Operand) (ho : o.op = .load ty x) (g t : Nat) (cs : Array Value) {d : TypeDesc}
    (hb : Blk w g t cs) (hx : a.eval x = .pointer (some ⟨g, 0, none⟩)) (hu : P.underlying ty = some d) (hd : (match d with | .struct _ | .array _ _ => true | _ => false) = true) (hi : (P.info? ty).map (·.size) = some cs.size)
    (h : K (a.put o.dst (.agg cs)) w) : if Region.wanted o (yielded ops a.tmps) = true then Oper.wp P o a w K Q else E := by
  rw [if_pos hw]
  exact wp_load_row ty x ho g hx t cs (0, 0) d hb hu hd hi h
theorem step_build {ops : Array Oper} {o : Oper} {a : Act} {K : Act → World → Prop} {Q : Exit → Act → World → Prop} {E : Prop} (hw : Region.wanted o (yielded ops a.tmps) = true) (t : TypeId) (cs : Array Value) (ho : o.op = .build t #[]) (hf : P.built t [] = some cs)
    (h : K (a.put o.dst (.agg cs)) w) : if Region.wanted o (yielded ops a.tmps) = true then Oper.wp P o a w K Q else E := by
  rw [if_pos hw]
  exact wp_build t #[] ho (by simp [hf]) (by simpa [hf] using h)
theorem exec_load_mid {op : Oper} {a : Act} {w : World} (ty : TypeId) (x : Operand) (ho : op.op = .load ty x) (b o : Nat) (hx : a.eval x = .pointer (some ⟨b, o, none⟩)) (cs : List Value) (d : TypeDesc) (hc : w.rangeAt b o cs)
    (hu : P.underlying ty = some d) (hd : d.isRow = true) (hi : (P.info? ty).map (·.size) = some cs.length) : (execOp a.eval op).run P w = .ok (.value (.agg cs.toArray)) w := by
  unfold execOp
  simp only [ho, hx, Instr.loadAt, Instr.sureAddr, Sem.run_bind, Sem.run_pure, Result.andThen_ok, run_loadVar_mid w b o ty cs d hc hu hd hi]
/-- in a region that draws its order: an operation that is taken first; one whose guard does not hold -/
theorem take_on {md : Region.Mode} {ops : Array Oper} {Q : Exit → Act → World → Prop} {S : World → Prop} {i : Nat} {oi : Oper} (d : Option Tmp) {v : Value} {fuel : Nat} {listed : Array Bool} {a : Act} (hi : ops[i]? = some oi) (hd : oi.dst = d)
    (hs : Region.noSelect ops = true) (hf : Region.free md ops listed i = true) (hr : (Region.ready md ops listed).contains i = true)
    (hQ : ∀ c a w, Q (.panic c) (a.put d v) w → Q (.panic c) a w) (hw : Region.wanted oi (yielded ops a.tmps) = true) (hy : ∀ w, S w → (execOp a.eval oi).run P w = .ok (.value v) w) (hS : S w)
    (h : wpAnyH P md ops Q S fuel (listed.setIfInBounds i true) (a.put d v) w) : wpAnyH P md ops Q S (fuel + 1) listed a w := by
  subst hd
  exact wpAnyH_take hi hs hf hr hQ (.inl ⟨hw, hy⟩) hS h
theorem take_off {md : Region.Mode} {ops : Array Oper} {Q : Exit → Act → World → Prop} {S : World → Prop} {i : Nat} {oi : Oper} (d : Option Tmp) {fuel : Nat} {listed : Array Bool} {a : Act} (hi : ops[i]? = some oi) (hd : oi.dst = d)
    (hs : Region.noSelect ops = true) (hf : Region.free md ops listed i = true) (hr : (Region.ready md ops listed).contains i = true)
    (hQ : ∀ c a w, Q (.panic c) (a.put d undef) w → Q (.panic c) a w) (hw : Region.wanted oi (yielded ops a.tmps) = false) (hS : S w)
    (h : wpAnyH P md ops Q S fuel (listed.setIfInBounds i true) (a.put d undef) w) : wpAnyH P md ops Q S (fuel + 1) listed a w := by
  subst hd
  exact wpAnyH_take hi hs hf hr hQ (.inr ⟨hw, rfl⟩) hS h
end
end Go.Proofs.Ytepikbmlhejobaa
