/- The reference: Sum256. -/
import Derived.Test.YtepikbmlhejobaaDoorRefSum
namespace Go.Proofs.YtepikbmlhejobaaDoor
open Go.RowKit
theorem rd_rng {w : World} {g : Nat} {l : List UInt32} (h : Rd enc32 w (some ⟨g, 0, none⟩) l) : w.rangeAt g 0 (l.map enc32) := fun j v hv => by
  rw [List.getElem?_map] at hv
  obtain ⟨x, hx, rfl⟩ := Option.map_eq_some_iff.1 hv
  obtain ⟨ad, he, hc⟩ := h j x hx
  cases he
  rwa [add_lit_] at hc
theorem rTySz : (Tryd.prog.info? 57).map (·.size) = some 8 := rSz0
theorem wTySz : (Tryd.prog.info? 67).map (·.size) = some (ksL.map enc32).length := by kernel_rfl
set_option maxRecDepth 20000 in
set_option maxHeartbeats 1000000 in
theorem refSum_any (A : Option Addr) (c n : Nat) (l : List UInt8) (w : World) (hn : l.length = n) (hb : n ≤ 140737488355200) (h : Rd encB w A l) (hB : Rd enc32 w (some ⟨1, 0, none⟩) startS.list) (hQ : Rd enc32 w (some ⟨2, 0, none⟩) ksL) :
    Calls Tryd.prog 22 #[.slice A n c] w fun e w' => e = .returned (.agg (arr encB (digestL ksL startS l))) ∧ Below w.heap.size w w' := by
  have z1 := zeroA32
  have HR := Lib.hid (rd_rng (hB.alloc (.cells (arr encB zero32) 36)))
  have HQ := Lib.hid (rd_rng (hQ.alloc (.cells (arr encB zero32) 36)))
  have b0 := Blk.new w 36 (arr encB zero32)
  have B0 : Below w.heap.size w (w.alloc (.cells (arr encB zero32) 36)) := (Below.refl _ w).alloc (Nat.le_refl _) _
  have hsz : (w.alloc (.cells (arr encB zero32) 36)).heap.size = w.heap.size + 1 := by rw [World.size_alloc]
  have g1 := Lib.hid (sumWith_any ksL ksL_len startS A c n l (w.alloc (.cells (arr encB zero32) 36)) hn hb (h.alloc _))
  have HSZ := Lib.hid hsz
  clear hB hQ h hsz
  go_enter Tryd.func22, Tryd.ntmps22
  go_wp2_with (first
    | (refine wpList_load_mid rfl 57 (.global 1) rfl 1 0 rfl (startS.list.map enc32) _ HR.out rTy rfl rTySz ?_)
    | (refine wpList_load_mid rfl 67 (.global 2) rfl 2 0 rfl (ksL.map enc32) _ HQ.out wTy rfl wTySz ?_))
  refine g1.out.mono ?_
  rintro e w3 ⟨rfl, hB3⟩
  have b3 := b0.below hB3 b0.lt
  have hB4 := B0.trans (hB3.mono B0.size)
  have hdl := digestL_len ksL startS l
  have HDL := Lib.hid hdl
  clear hdl g1 b0 hB3
  go_wp2_with (first
    | ((with_reducible refine wpList_store_blk rfl 36 (.tmp 2) (.tmp 6) rfl w.heap.size 36 (arr encB zero32) (arr encB (digestL ksL startS l)) ?hb rfl rfl (arrSz HDL.out) ?hl (arr_one encB_one _) ?_); (case hb => exact b3); (case hl => rw [arr_size, arr_size, zero32_len, HDL.out]); intro w9 hb9 hg9 hs9))
  refine bodyPost_cell rfl w.heap.size 36 _ (0, 0) _ rfl hb9 arrTy rfl (arrSz HDL.out) rfl ⟨rfl, below_only hB4 hg9 hB4.size (Nat.le_refl _)⟩
end Go.Proofs.YtepikbmlhejobaaDoor
