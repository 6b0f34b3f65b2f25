/- What the rows' lists give: replicaref01.begin and replicaref01.round hold their constants too. -/
import Derived.Test.YtepikbmlhejobaaDoorLaid
namespace Go.Proofs.YtepikbmlhejobaaDoor
open Go.RowKit
theorem gBegin : Tryd.prog.globalNamed "replica/replicaref01.begin" = some 1 := by kernel_rfl
theorem gRound : Tryd.prog.globalNamed "replica/replicaref01.round" = some 2 := by kernel_rfl
theorem gBeginT : (Tryd.prog.globals[1]?).map (·.type) = some 57 := by kernel_rfl
theorem gRoundT : (Tryd.prog.globals[2]?).map (·.type) = some 67 := by kernel_rfl
theorem cells8r : Tryd.prog.cellsOf 57 = 8 := by kernel_rfl
theorem rd_begin {W : World} {laid : List (String × DataW Unit)} (h : laidMetH Tryd.prog laid W) (hm : laid.filter (fun x => x.1 == "replica/replicaref01.begin") = [("replica/replicaref01.begin", Lib.tabData .u32 startZ)]) : Rd enc32 W (some ⟨1, 0, none⟩) startS.list := by
  have h1 := h.filter (fun x => x.1 == "replica/replicaref01.begin")
  rw [hm] at h1
  exact rd_tab rfl (Lib.tabIs_of_head (rest := []) gBegin gBeginT Tryd.underlying57 Tryd.underlying46 cellsU32 cells8r h1) gBegin
theorem rd_round {W : World} {laid : List (String × DataW Unit)} (h : laidMetH Tryd.prog laid W) (hm : laid.filter (fun x => x.1 == "replica/replicaref01.round") = [("replica/replicaref01.round", Lib.tabData .u32 roundsZ)]) : Rd enc32 W (some ⟨2, 0, none⟩) ksL := by
  have h1 := h.filter (fun x => x.1 == "replica/replicaref01.round")
  rw [hm] at h1
  exact rd_tab rfl (Lib.tabIs_of_head (rest := []) gRound gRoundT Tryd.underlying67 Tryd.underlying46 cellsU32 cells64 h1) gRound
def laidFour : List (String × DataW Unit) := [("replica/digest.rounds", Rows.laid_replica_digest_rounds), ("replica/digest.start", Rows.laid_replica_digest_start), ("replica/replicaref01.begin", Rows.laid_replica_replicaref01_begin), ("replica/replicaref01.round", Rows.laid_replica_replicaref01_round)]
theorem four_begin : laidFour.filter (fun x => x.1 == "replica/replicaref01.begin") = [("replica/replicaref01.begin", Lib.tabData .u32 startZ)] := by kernel_rfl
theorem four_round : laidFour.filter (fun x => x.1 == "replica/replicaref01.round") = [("replica/replicaref01.round", Lib.tabData .u32 roundsZ)] := by kernel_rfl
/-- A world for the witness: the settled one, the four tables holding what their initialisers lay. -/
noncomputable def laidWorldD (os : Os) : World :=
  let h0 := (laidWorld os).heap
  let h1 := (h0.modify 1 (putCells (arr enc32 startS.list))).modify 2 (putCells (arr enc32 ksL))
  { laidWorld os with heap := h1 }
end Go.Proofs.YtepikbmlhejobaaDoor
