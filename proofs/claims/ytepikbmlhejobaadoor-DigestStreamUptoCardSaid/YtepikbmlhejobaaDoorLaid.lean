/- What the rows' lists give: digest.start and digest.rounds hold their constants. -/
import Derived.Test.YtepikbmlhejobaaDoorRows
import Derived.Test.YtepikbmlhejobaaDoorShaPub
import Derived.Lib.LaidTab
import Derived.LaidSub
namespace Go.Proofs.YtepikbmlhejobaaDoor
open Go.RowKit
theorem gStart : Tryd.prog.globalNamed "replica/digest.start" = some 0 := by kernel_rfl
theorem gRounds : Tryd.prog.globalNamed "replica/digest.rounds" = some 3 := by kernel_rfl
theorem gStartT : (Tryd.prog.globals[0]?).map (·.type) = some 58 := by kernel_rfl
theorem gRoundsT : (Tryd.prog.globals[3]?).map (·.type) = some 67 := by kernel_rfl
theorem cells8 : Tryd.prog.cellsOf 58 = 8 := by kernel_rfl
theorem cells64 : Tryd.prog.cellsOf 67 = 64 := by kernel_rfl
theorem cellsU32 : Tryd.prog.cellsOf 46 = 1 := by kernel_rfl
def startZ : List Int := startS.list.map v32
def roundsZ : List Int := ksL.map v32
theorem rd_tab {W : World} {g : Nat} {name : String} {l : List UInt32} {zs : List Int} (hz : zs = l.map v32) (h : Lib.TabIs Tryd.prog W name .u32 zs) (hg : Tryd.prog.globalNamed name = some g) : Rd enc32 W (some ⟨g, 0, none⟩) l := fun i x hx => ⟨_, rfl, by
  subst hz
  have hi := (List.getElem?_eq_some_iff.1 hx).1
  have := h.cell hg i (by simpa using hi)
  rw [add_lit_, Nat.zero_add, this]
  simp [List.getD, hx]⟩
theorem rd_start {W : World} {laid : List (String × DataW Unit)} (h : laidMetH Tryd.prog laid W) (hm : laid.filter (fun x => x.1 == "replica/digest.start") = [("replica/digest.start", Lib.tabData .u32 startZ)]) : Rd enc32 W (some ⟨0, 0, none⟩) startS.list := by
  have h1 := h.filter (fun x => x.1 == "replica/digest.start")
  rw [hm] at h1
  exact rd_tab rfl (Lib.tabIs_of_head (rest := []) gStart gStartT Tryd.underlying58 Tryd.underlying46 cellsU32 cells8 h1) gStart
theorem rd_rounds {W : World} {laid : List (String × DataW Unit)} (h : laidMetH Tryd.prog laid W) (hm : laid.filter (fun x => x.1 == "replica/digest.rounds") = [("replica/digest.rounds", Lib.tabData .u32 roundsZ)]) : Rd enc32 W (some ⟨3, 0, none⟩) ksL := by
  have h1 := h.filter (fun x => x.1 == "replica/digest.rounds")
  rw [hm] at h1
  exact rd_tab rfl (Lib.tabIs_of_head (rest := []) gRounds gRoundsT Tryd.underlying67 Tryd.underlying46 cellsU32 cells64 h1) gRounds
theorem two_start : ([("replica/digest.rounds", Rows.laid_replica_digest_rounds), ("replica/digest.start", Rows.laid_replica_digest_start)] : List (String × DataW Unit)).filter (fun x => x.1 == "replica/digest.start") = [("replica/digest.start", Lib.tabData .u32 startZ)] := by kernel_rfl
theorem two_rounds : ([("replica/digest.rounds", Rows.laid_replica_digest_rounds), ("replica/digest.start", Rows.laid_replica_digest_start)] : List (String × DataW Unit)).filter (fun x => x.1 == "replica/digest.rounds") = [("replica/digest.rounds", Lib.tabData .u32 roundsZ)] := by kernel_rfl
theorem four_start : ([("replica/digest.rounds", Rows.laid_replica_digest_rounds), ("replica/digest.start", Rows.laid_replica_digest_start), ("replica/replicaref01.begin", Rows.laid_replica_replicaref01_begin), ("replica/replicaref01.round", Rows.laid_replica_replicaref01_round)] : List (String × DataW Unit)).filter (fun x => x.1 == "replica/digest.start") = [("replica/digest.start", Lib.tabData .u32 startZ)] := by kernel_rfl
theorem four_rounds : ([("replica/digest.rounds", Rows.laid_replica_digest_rounds), ("replica/digest.start", Rows.laid_replica_digest_start), ("replica/replicaref01.begin", Rows.laid_replica_replicaref01_begin), ("replica/replicaref01.round", Rows.laid_replica_replicaref01_round)] : List (String × DataW Unit)).filter (fun x => x.1 == "replica/digest.rounds") = [("replica/digest.rounds", Lib.tabData .u32 roundsZ)] := by kernel_rfl
def putCells (cs : Array Value) : Obj → Obj
  | .cells _ t frozen => .cells cs t frozen
  | o => o
/-- A world for the witness: the settled one, the tables holding what their initialisers lay. -/
noncomputable def laidWorld (os : Os) : World :=
  let h0 := (World.holding Tryd.prog os ⟨#[], #[], []⟩).heap
  let h1 := (h0.modify 0 (putCells (arr enc32 startS.list))).modify 3 (putCells (arr enc32 ksL))
  { World.holding Tryd.prog os ⟨#[], #[], []⟩ with heap := h1 }
end Go.Proofs.YtepikbmlhejobaaDoor
