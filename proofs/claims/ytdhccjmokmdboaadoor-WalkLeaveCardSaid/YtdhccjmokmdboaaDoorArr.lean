/- Arrays of bytes: an array as a value, loaded, stored, indexed; a string's byte. Nothing here is about the program's functions. -/
import Derived.Test.YtdhccjmokmdboaaDoorMem
import Derived.WalkKit
import Derived.Laws.Tables
import Derived.Laws.ResultCell
import Derived.Deep.MidRow
import Derived.Laws.BytesArg
namespace Go.Proofs.YtdhccjmokmdboaaDoor
open Go.RowKit

/-- an array of one-cell elements -/
def arr {α : Type} (enc : α → Value) (l : List α) : Array Value := (l.map enc).toArray
section
variable {α : Type} {enc : α → Value}
theorem arr_size (l : List α) : (arr enc l).size = l.length := by simp [arr]
theorem arr_get (l : List α) (k : Nat) : (arr enc l)[k]? = (l[k]?).map enc := by simp [arr]
theorem arr_at {l : List α} {k : Nat} {x : α} (h : l[k]? = some x) : (arr enc l)[k]? = some (enc x) := by rw [arr_get, h]; rfl
theorem arr_one (h : ∀ x, (enc x).oneCell' = true) (l : List α) : (arr enc l).all (·.oneCell') = true :=
  Array.all_eq_true_iff_forall_mem.2 fun v hv => by
    simp only [arr, List.mem_toArray, List.mem_map] at hv
    obtain ⟨x, _, rfl⟩ := hv
    exact h x
theorem arr_set (l : List α) (k : Nat) (x : α) : (arr enc l).setIfInBounds k (enc x) = arr enc (l.set k x) := by
  simp [arr, List.map_set]
theorem arr_list (l : List α) : (arr enc l).toList = l.map enc := by simp [arr]
end

section
variable {P : Program}
theorem isAgg_int {e : TypeId} {k : IntKind} (he : P.underlying e = some (.int k)) (W : World) : (isAgg e).run P W = .ok false W := by
  unfold isAgg
  rw [Sem.run_bind, run_underlying he W]
  rfl
/-- an array's element, the array a value -/
theorem run_index_arr {α : Type} {enc : α → Value} {t e len : Nat} {k : IntKind} (ht : P.underlying t = some (.array len e)) (he : P.underlying e = some (.int k)) (hs : (P.info? e).map (·.size) = some 1) {l : List α} (hl : l.length = len) {i : Nat} {x : α} (hx : l[i]? = some x) (W : World) :
    (Instr.index t (.agg (arr enc l)) (.int .i64 (i : Int))).run P W = .ok (enc x) W := by
  have hi : i < l.length := (List.getElem?_eq_some_iff.1 hx).1
  obtain ⟨inf, hinf, hsz⟩ := Option.map_eq_some_iff.1 hs
  have h2 : (0 : Int) ≤ (i : Int) ∧ (i : Int) < (len : Int) := by omega
  simp only [Instr.index, asIntOf, Sem.run_bind, Sem.run_pure, Result.andThen_ok, run_underlying ht, h2, and_self, if_true]
  simp [sizeOf, typeInfo, hinf, hsz, part, isAgg_int he, arr_at hx]
end
/-- a string's byte -/
theorem run_index_strL {P : Program} {t : TypeId} (ht : P.underlying t = some .string) {s : ByteArray} {i : Nat} {x : UInt8} (h : s.data.toList[i]? = some x) (j : Int) (hj : j = (i : Int)) (W : World) :
    (Instr.index t (.string s) (.int .i64 j)).run P W = .ok (encB x) W := by
  subst hj
  rw [Array.getElem?_toList] at h
  obtain ⟨hlt, hv⟩ := Array.getElem?_eq_some_iff.1 h
  have hi : (0 : Int) ≤ (i : Int) ∧ (i : Int) < (s.size : Int) := ⟨by omega, by have : i < s.size := hlt; omega⟩
  rw [run_index_string W t s .i64 (i : Int) ht, dif_pos hi]
  congr 2
  unfold vB
  rw [← hv]
  rfl
theorem quiet_left {P : Program} {f : FuncId} {args : Array Value} {w : World} {n : Nat} {v : Value} (h : Calls P f args (w.drewN n) fun e w' => e = .returned v ∧ w.drewN n = w') : Calls P f args (w.drewN n) fun e w' => e = .returned v ∧ ∃ m, w' = w.drewN m :=
  h.mono fun _ _ ⟨he, hm⟩ => ⟨he, n, hm.symm⟩
/-- a text of these bytes -/
def strOf (l : List UInt8) : ByteArray := ⟨l.toArray⟩
theorem strOf_nums (l : List UInt8) : strOfNums (l.map vB) = strOf l := by
  have h : (l.map vB).map (fun n => UInt8.ofNat n.toNat) = l := by
    rw [List.map_map]
    conv => rhs; rw [← List.map_id l]
    refine List.map_congr_left fun b _ => ?_
    simp [vB]
  unfold strOfNums strOf
  rw [h]
/-- string(b) -/
theorem run_str {P : Program} {w : World} {base e src dst : Nat} {v : Value} {l : List UInt8} (hs : P.underlying src = some (.slice e)) (he : P.underlying e = some (.int .u8)) (hd : P.underlying dst = some .string) (h : Own encB e w base v l) :
    (convert src dst v).run P w = .ok (.string (strOf l)) w := by
  rcases h.form with ⟨rfl, rfl⟩ | ⟨g, cap, cs, rfl, _⟩
  · exact run_convert_bytes_nil w src e hs he 0 0 dst hd
  · rw [← strOf_nums]
    refine run_convert_bytes_arg w src e hs he g 0 _ cap (l.map vB) (by simp) (fun i hi => ?_) dst hd
    obtain ⟨x, hx, hc, _⟩ := h.at_ hi
    rw [Nat.zero_add, hc, List.getD_eq_getElem?_getD, List.getElem?_map, hx]
    rfl

section
variable {P : Program} {ops : Array Oper} {rest : List Oper} {o : Oper} {a : Act} {w : World} {Q : Exit → Act → World → Prop}
/-- a whole variable is read -/
theorem wpList_load_blk (hgd : o.guard = none) (ty : TypeId) (x : Operand) (ho : o.op = .load ty x) (g t : Nat) (cs : Array Value) {d : TypeDesc} (hb : Blk w g t cs) (hx : a.eval x = .pointer (some ⟨g, 0, none⟩))
    (hu : P.underlying ty = some d) (hd : (match d with | .struct _ | .array _ _ => true | _ => false) = true) (hi : (P.info? ty).map (·.size) = some cs.size)
    (h : wpList P ops Q rest (a.put o.dst (.agg cs)) w) : wpList P ops Q (o :: rest) a w := wpList_load_row hgd ty x ho g hx t cs (0, 0) d hb hu hd hi h
theorem Blk.setRow {g t : Nat} {old cs : Array Value} (h : Blk w g t old) : Blk (w.setRow g cs) g t cs := setRow_heap w g old cs t (0, 0) h
theorem setRow_only (g : Nat) (cs : Array Value) : w.grownBy (w.setRow g cs) (some g) :=
  ⟨rfl, rfl, rfl, by simp [World.setRow], fun k _ hne => setRow_other w g k cs (fun e => hne (by rw [e]))⟩
/-- a whole variable is written -/
theorem wpList_store_blk (hgd : o.guard = none) (ty : TypeId) (x y : Operand) (ho : o.op = .store ty x y) (g t : Nat) (old cs : Array Value) (hb : Blk w g t old) (hx : a.eval x = .pointer (some ⟨g, 0, none⟩)) (hy : a.eval y = .agg cs)
    (hi : (P.info? ty).map (·.size) = some cs.size) (hold : old.size = cs.size) (h1 : cs.all (·.oneCell') = true)
    (h : ∀ w', Blk w' g t cs → w.grownBy w' (some g) → w'.heap.size = w.heap.size → wpList P ops Q rest (a.put o.dst undef) w') : wpList P ops Q (o :: rest) a w :=
  wpList_store_row hgd ty x y ho g cs hx hy t old hb hi hold h1 (h _ hb.setRow (setRow_only g cs) (by simp [World.setRow]))
end
/-- an operation whose guard holds -/
theorem wpList_on {P : Program} {ops : Array Oper} {rest : List Oper} {o : Oper} {a : Act} {w : World} {Q : Exit → Act → World → Prop} (hw : Region.wanted o (yielded ops a.tmps) = true) (h : wpList P ops Q ({ o with guard := none } :: rest) a w) : wpList P ops Q (o :: rest) a w := by
  unfold wpList at h ⊢
  rw [if_pos hw]
  rw [if_pos (by simp [Region.wanted])] at h
  exact h
/-- a result that is a whole variable, and a number beside it -/
theorem bodyPost_cell_tmp {P : Program} {fn : Func} {R : Ending → World → Prop} {a : Act} {w : World} {p u : Tmp} {ty : TypeId} (h : fn.results = #[.cell p ty, .tmp u]) (g : Nat) (t : TypeId) (cs : Array Value) (fr : Nat × Nat) (d : TypeDesc)
    (hp : a.tmps.getD p undef = .pointer (some ⟨g, 0, none⟩)) (hg : w.heap[g]? = some (.cells cs t fr)) (hu : P.underlying ty = some d) (hd : (match d with | .struct _ | .array _ _ => true | _ => false) = true) (hi : (P.info? ty).map (·.size) = some cs.size)
    (hdef : a.defers = []) (hR : R (.returned (.tuple #[.agg cs, a.tmps.getD u undef])) w) : bodyPost P fn R .ret a w := by
  refine bodyPost_ret (v := .tuple #[.agg cs, a.tmps.getD u undef]) ?_ hdef hR
  rw [results_cell_tmp h, hp]
  simp only [asAddr, Sem.run_pure, Result.andThen_ok, run_loadVar_row w g t ty cs fr d hg hu hd hi]
section
variable {P : Program} {w : World}
/-- a whole variable is read, at a step of a region that draws its order -/
theorem step_load_blk {ops : Array Oper} {o : Oper} {a : Act} {K : Act → World → Prop} {Q : Exit → Act → World → Prop} {E : Prop} (hw : Region.wanted o (yielded ops a.tmps) = true) (ty : TypeId) (x : Operand) (ho : o.op = .load ty x) (g t : Nat) (cs : Array Value) {d : TypeDesc}
    (hb : Blk w g t cs) (hx : a.eval x = .pointer (some ⟨g, 0, none⟩)) (hu : P.underlying ty = some d) (hd : (match d with | .struct _ | .array _ _ => true | _ => false) = true) (hi : (P.info? ty).map (·.size) = some cs.size)
    (h : K (a.put o.dst (.agg cs)) w) : if Region.wanted o (yielded ops a.tmps) = true then Oper.wp P o a w K Q else E := by
  rw [if_pos hw]
  exact wp_load_row ty x ho g hx t cs (0, 0) d hb hu hd hi h
theorem step_build {ops : Array Oper} {o : Oper} {a : Act} {K : Act → World → Prop} {Q : Exit → Act → World → Prop} {E : Prop} (hw : Region.wanted o (yielded ops a.tmps) = true) (t : TypeId) (cs : Array Value) (ho : o.op = .build t #[]) (hf : P.built t [] = some cs)
    (h : K (a.put o.dst (.agg cs)) w) : if Region.wanted o (yielded ops a.tmps) = true then Oper.wp P o a w K Q else E := by
  rw [if_pos hw]
  exact wp_build t #[] ho (by simp [hf]) (by simpa [hf] using h)
theorem exec_load_mid {op : Oper} {a : Act} {w : World} (ty : TypeId) (x : Operand) (ho : op.op = .load ty x) (b o : Nat) (hx : a.eval x = .pointer (some ⟨b, o, none⟩)) (cs : List Value) (d : TypeDesc) (hc : w.rangeAt b o cs)
    (hu : P.underlying ty = some d) (hd : d.isRow = true) (hi : (P.info? ty).map (·.size) = some cs.length) : (execOp a.eval op).run P w = .ok (.value (.agg cs.toArray)) w := by
  unfold execOp
  simp only [ho, hx, Instr.loadAt, Instr.sureAddr, Sem.run_bind, Sem.run_pure, Result.andThen_ok, run_loadVar_mid w b o ty cs d hc hu hd hi]
/-- in a region that draws its order: an operation that is taken first; one whose guard does not hold -/
theorem take_on {md : Region.Mode} {ops : Array Oper} {Q : Exit → Act → World → Prop} {S : World → Prop} {i : Nat} {oi : Oper} (d : Option Tmp) {v : Value} {fuel : Nat} {listed : Array Bool} {a : Act} (hi : ops[i]? = some oi) (hd : oi.dst = d)
    (hs : Region.noSelect ops = true) (hf : Region.free md ops listed i = true) (hr : (Region.ready md ops listed).contains i = true)
    (hQ : ∀ c a w, Q (.panic c) (a.put d v) w → Q (.panic c) a w) (hw : Region.wanted oi (yielded ops a.tmps) = true) (hy : ∀ w, S w → (execOp a.eval oi).run P w = .ok (.value v) w) (hS : S w)
    (h : wpAnyH P md ops Q S fuel (listed.setIfInBounds i true) (a.put d v) w) : wpAnyH P md ops Q S (fuel + 1) listed a w := by
  subst hd
  exact wpAnyH_take hi hs hf hr hQ (.inl ⟨hw, hy⟩) hS h
theorem take_off {md : Region.Mode} {ops : Array Oper} {Q : Exit → Act → World → Prop} {S : World → Prop} {i : Nat} {oi : Oper} (d : Option Tmp) {fuel : Nat} {listed : Array Bool} {a : Act} (hi : ops[i]? = some oi) (hd : oi.dst = d)
    (hs : Region.noSelect ops = true) (hf : Region.free md ops listed i = true) (hr : (Region.ready md ops listed).contains i = true)
    (hQ : ∀ c a w, Q (.panic c) (a.put d undef) w → Q (.panic c) a w) (hw : Region.wanted oi (yielded ops a.tmps) = false) (hS : S w)
    (h : wpAnyH P md ops Q S fuel (listed.setIfInBounds i true) (a.put d undef) w) : wpAnyH P md ops Q S (fuel + 1) listed a w := by
  subst hd
  exact wpAnyH_take hi hs hf hr hQ (.inr ⟨hw, rfl⟩) hS h
end
end Go.Proofs.YtdhccjmokmdboaaDoor
