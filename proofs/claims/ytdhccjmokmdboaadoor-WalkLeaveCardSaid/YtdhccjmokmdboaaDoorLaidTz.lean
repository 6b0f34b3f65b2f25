/- What the rows' list gives: math/bits.deBruijn64tab holds its constants. -/
import Derived.Test.YtdhccjmokmdboaaDoorRows
import Derived.Test.YtdhccjmokmdboaaDoorWkB
import Derived.Lib.LaidTab
import Derived.LaidSub
namespace Go.Proofs.YtdhccjmokmdboaaDoor
open Go.RowKit
theorem gTz : Tryd.prog.globalNamed "math/bits.deBruijn64tab" = some 0 := by kernel_rfl
theorem gTzT : (Tryd.prog.globals[0]?).map (·.type) = some 76 := by kernel_rfl
theorem cells64b : Tryd.prog.cellsOf 76 = 64 := by kernel_rfl
theorem cellsU8 : Tryd.prog.cellsOf 5 = 1 := by kernel_rfl
def tzZ : List Int := Go.Lib.deBruijn64tab.map fun (n : Nat) => (n : Int)
theorem tz_laid : ([("math/bits.deBruijn64tab", Rows.laid_math_bits_deBruijn64tab)] : List (String × DataW Unit)) = [("math/bits.deBruijn64tab", Lib.tabData .u8 tzZ)] := by kernel_rfl
theorem tab_tz {W : World} {laid : List (String × DataW Unit)} (h : laidMetH Tryd.prog laid W) (hm : laid = [("math/bits.deBruijn64tab", Lib.tabData .u8 tzZ)]) : TabW W := by
  subst hm
  have hT := Lib.tabIs_of_head (rest := []) gTz gTzT Tryd.underlying76 Tryd.underlying5 cellsU8 cells64b h
  intro j hj
  have := hT.cell gTz j (by simpa [tzZ] using hj)
  rw [this]
  congr 2
  simp [tzZ, List.getD_eq_getElem?_getD, List.getElem?_map, List.getElem?_eq_getElem hj]
theorem TabW.lt {W : World} (h : TabW W) : 0 < W.heap.size := by
  have h0 := h 0 (by decide)
  apply Nat.lt_of_not_le
  intro hle
  rw [World.cell?] at h0
  simp [Array.getElem?_eq_none hle] at h0
def putCells (cs : Array Value) : Obj → Obj
  | .cells _ t frozen => .cells cs t frozen
  | o => o
/-- A world for the witness: the settled one, the table holding what its initialiser lays. -/
noncomputable def laidWorld (os : Os) : World :=
  let h0 := (World.holding Tryd.prog os ⟨#[], #[], []⟩).heap
  { World.holding Tryd.prog os ⟨#[], #[], []⟩ with heap := h0.modify 0 (putCells (tzZ.map fun z => Value.int .u8 z).toArray) }
end Go.Proofs.YtdhccjmokmdboaaDoor
