/- SHA-256: New, Reset, Count, by contract. -/
import Derived.Test.YtepikbmlhejobaaDoorShaWr
namespace Go.Proofs.YtepikbmlhejobaaDoor
open Go.RowKit
set_option linter.unusedSimpArgs false

def zeroP : List UInt8 := List.replicate 64 0
theorem zeroP_len : zeroP.length = 64 := by simp [zeroP]
theorem built_hash (s : S8) : Tryd.prog.built 62 [(0, .agg (s.list.map enc32).toArray)] = some (hashC s zeroP 0 0) := by kernel_rfl
theorem rd_range {w : World} {g : Nat} {s : S8} (h : Rd enc32 w (some ⟨g, 0, none⟩) s.list) : w.rangeAt g 0 (s.list.map enc32) := fun j v hv => by
  rw [List.getElem?_map] at hv
  obtain ⟨x, hx, rfl⟩ := Option.map_eq_some_iff.1 hv
  obtain ⟨ad, e, hc⟩ := h j x hx
  cases e
  rwa [add_lit_] at hc
theorem wpList_build_hash {ops : Array Oper} {rest : List Oper} {o : Oper} {a : Act} {w : World} {Q : Exit → Act → World → Prop} (hg : o.guard = none) (x : Operand) (ho : o.op = .build 62 #[(0, x)]) (s : S8) (hx : a.eval x = .agg (s.list.map enc32).toArray)
    (h : wpList Tryd.prog ops Q rest (a.put o.dst (.agg (hashC s zeroP 0 0))) w) : wpList Tryd.prog ops Q (o :: rest) a w :=
  wpList_build hg 62 #[(0, x)] ho (by simp [hx, built_hash]) (by simpa [hx, built_hash] using h)
theorem hTy : ∃ fs, Tryd.prog.underlying 62 = some (.struct fs) := ⟨_, Tryd.underlying62⟩
theorem hSz0 : (Tryd.prog.info? 62).map (·.size) = some 74 := by kernel_rfl
theorem hSz (s : S8) {part : List UInt8} (h : part.length = 64) (held cnt : Nat) : (Tryd.prog.info? 62).map (·.size) = some (hashC s part held cnt).size := by rw [hashC_size s h]; exact hSz0
theorem hashC_one (s : S8) (part : List UInt8) (held cnt : Nat) : (hashC s part held cnt).all (·.oneCell') = true :=
  all_oneCell_toArray fun v hv => by
    simp only [hashL, List.mem_append, List.mem_map, List.mem_cons, List.not_mem_nil, or_false] at hv
    rcases hv with ⟨x, _, rfl⟩ | ⟨x, _, rfl⟩ | rfl | rfl <;> rfl
section
variable (ks : List UInt32) (s0 : S8)
set_option maxRecDepth 20000 in
set_option maxHeartbeats 1000000 in
theorem new_any (w : World) (hS : Rd enc32 w (some ⟨0, 0, none⟩) s0.list) : Calls Tryd.prog 13 #[] w fun e w' => e = .returned (.pointer (some ⟨w.heap.size, 0, none⟩)) ∧ HashS w' w.heap.size ks s0 [] 0 ∧ Below w.heap.size w w' := by
  have HR := Lib.hid (rd_range hS)
  clear hS
  go_enter Tryd.func13, Tryd.ntmps13
  go_wp2_with (first
    | (refine wpList_load_mid rfl 58 (.global 0) rfl 0 0 rfl (s0.list.map enc32) _ HR.out sTy rfl sSz0 ?_)
    | (with_reducible refine wpList_build_hash rfl (.tmp 1) rfl s0 rfl ?_))
  go_ret
  exact ⟨rfl, ⟨zeroP, zeroP_len, Blk.new w _ _, rfl⟩, (Below.refl _ w).alloc (Nat.le_refl _) _⟩
set_option maxRecDepth 20000 in
set_option maxHeartbeats 1000000 in
theorem reset_any (H : Nat) (l : List UInt8) (cnt : Nat) (w : World) (hH : HashS w H ks s0 l cnt) (hS : Rd enc32 w (some ⟨0, 0, none⟩) s0.list) : Calls Tryd.prog 24 #[.pointer (some ⟨H, 0, none⟩)] w fun e w' => e = .returned (.tuple #[]) ∧ HashS w' H ks s0 [] 0 ∧ Chg (fun k _ => k = H) w w' := by
  have HR := Lib.hid (rd_range hS)
  obtain ⟨part, hpl, hb, _⟩ := hH
  have HB := Lib.hid hb
  have HP := Lib.hid hpl
  clear hS hb hpl
  go_enter Tryd.func24, Tryd.ntmps24
  go_wp2_with (first
    | (refine wpList_load_mid rfl 58 (.global 0) rfl 0 0 rfl (s0.list.map enc32) _ HR.out sTy rfl sSz0 ?_)
    | (with_reducible refine wpList_build_hash rfl (.tmp 3) rfl s0 rfl ?_)
    | ((refine wpList_store_blk rfl 62 (.tmp 5) (.tmp 4) rfl H 62 (hashC (chainN ks (l.length / 64) s0 l) part (l.length % 64) cnt) (hashC s0 zeroP 0 0) ?hb rfl rfl (hSz _ zeroP_len _ _) ?hl (hashC_one _ _ _ _) ?_); (case hb => exact HB.out); (case hl => rw [hashC_size _ HP.out, hashC_size _ zeroP_len]); intro w1 hb1 hg1 hs1))
  go_end0
  exact ⟨rfl, ⟨zeroP, zeroP_len, hb1, rfl⟩, Chg.of_row hg1 HB.out hb1 (by rw [hashC_size _ HP.out, hashC_size _ zeroP_len]) fun _ => rfl⟩
set_option maxRecDepth 20000 in
theorem count_any (H : Nat) (l : List UInt8) (cnt : Nat) (w : World) (hH : HashS w H ks s0 l cnt) : Calls Tryd.prog 23 #[.pointer (some ⟨H, 0, none⟩)] w fun e w' => e = .returned (.int .u64 cnt) ∧ w = w' := by
  obtain ⟨part, hpl, hb, _⟩ := hH
  have h73 : w.cell? ⟨H, 73, none⟩ = some (.int .u64 cnt) := (hb.cell 73).trans (hashC_cnt _ hpl _ _)
  clear hb hpl
  go_enter Tryd.func23, Tryd.ntmps23
  go_wp2
  go_ret
  exact ⟨rfl, rfl⟩
end
end Go.Proofs.YtepikbmlhejobaaDoor
