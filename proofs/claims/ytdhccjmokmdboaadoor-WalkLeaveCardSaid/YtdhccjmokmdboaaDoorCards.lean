/-
  DERIVED. GIVEN WITH THE SEED: THE CARDS: each row of YtdhccjmokmdboaaDoorRows.lean that lists a variable, with what it lists TIED to the program's text (the seventh form; the later family's looks); each row that meets fmt, with fmt's text TOLD by the authors' own Lean function (tested against real Go, not proved from fmt's source: count such statements apart). THE CARD IS WHAT COUNTS. Prove the row's statement (the work); the ties are given (YtdhccjmokmdboaaDoorTie.lean); close each card by the builder's one call (the guide's Derived/Test/ToyasCard.lean, 'card_holds'). Laid BY PROGRAM, IN A SANDBOX (cutbox-door.mjs). By AI agents, Wed Nov 11 2026. No macro, syntax, notation, axiom, sorry.
-/
import Derived.Test.YtdhccjmokmdboaaDoorRows
import GoSem.ClaimSeven
namespace Go.Proofs.YtdhccjmokmdboaaDoor
namespace Rows

/-- THE TIED CARD OF 'replicalaw13.WalkRound'. -/
def walkRoundCard : Claim7 := { stood := { row := walkRoundRow, standIns := [], harness := (true, "cefe4d6682b02772fb3ea6b997f08f829945dfa7508277f38c272fece7fff8e5"), looks := false }, kinds := [], alts := [], laidByText := true, laidKinds := [.data], laidTests := true, laidLooks := .later }
def WalkRoundCardSaid : Prop := Claim7.holds Tryd.pinned (.plain (OpenSpec.ofChange walkRoundSpec)) walkRoundCard

/-- THE TIED CARD OF 'replicalaw13.WalkWalk'. -/
def walkWalkCard : Claim7 := { stood := { row := walkWalkRow, standIns := [], harness := (true, "cefe4d6682b02772fb3ea6b997f08f829945dfa7508277f38c272fece7fff8e5"), looks := false }, kinds := [], alts := [], laidByText := true, laidKinds := [.data], laidTests := true, laidLooks := .later }
def WalkWalkCardSaid : Prop := Claim7.holds Tryd.pinned (.plain (OpenSpec.ofChange walkWalkSpec)) walkWalkCard

/-- THE TIED CARD OF 'replicalaw13.WalkLeave'. -/
def walkLeaveCard : Claim7 := { stood := { row := walkLeaveRow, standIns := [], harness := (true, "cefe4d6682b02772fb3ea6b997f08f829945dfa7508277f38c272fece7fff8e5"), looks := false }, kinds := [], alts := [], laidByText := true, laidKinds := [.data], laidTests := true, laidLooks := .later }
def WalkLeaveCardSaid : Prop := Claim7.holds Tryd.pinned (.plain (OpenSpec.ofChange walkLeaveSpec)) walkLeaveCard

/-- THE TIED CARD OF 'replicalaw13.WalkExtents'. -/
def walkExtentsCard : Claim7 := { stood := { row := walkExtentsRow, standIns := [], harness := (true, "cefe4d6682b02772fb3ea6b997f08f829945dfa7508277f38c272fece7fff8e5"), looks := false }, kinds := [], alts := [], laidByText := true, laidKinds := [.data], laidTests := true, laidLooks := .later }
def WalkExtentsCardSaid : Prop := Claim7.holds Tryd.pinned (.plain (OpenSpec.ofChange walkExtentsSpec)) walkExtentsCard

/-- THE SECOND FORM's CARD OF 'replicalaw13.WalkRound'. -/
def walkRoundUptoCard : Claim7 := { stood := { row := walkRoundUptoRow, standIns := [], harness := (true, "cefe4d6682b02772fb3ea6b997f08f829945dfa7508277f38c272fece7fff8e5"), looks := false }, kinds := [], alts := [], laidByText := true, laidKinds := [.data], laidTests := true, laidLooks := .later }
def WalkRoundUptoCardSaid : Prop := Claim7.holds Tryd.pinned (.plain (OpenSpec.upto walkRoundSpec)) walkRoundUptoCard

/-- THE SECOND FORM's CARD OF 'replicalaw13.WalkWalk'. -/
def walkWalkUptoCard : Claim7 := { stood := { row := walkWalkUptoRow, standIns := [], harness := (true, "cefe4d6682b02772fb3ea6b997f08f829945dfa7508277f38c272fece7fff8e5"), looks := false }, kinds := [], alts := [], laidByText := true, laidKinds := [.data], laidTests := true, laidLooks := .later }
def WalkWalkUptoCardSaid : Prop := Claim7.holds Tryd.pinned (.plain (OpenSpec.upto walkWalkSpec)) walkWalkUptoCard

/-- THE SECOND FORM's CARD OF 'replicalaw13.WalkLeave'. -/
def walkLeaveUptoCard : Claim7 := { stood := { row := walkLeaveUptoRow, standIns := [], harness := (true, "cefe4d6682b02772fb3ea6b997f08f829945dfa7508277f38c272fece7fff8e5"), looks := false }, kinds := [], alts := [], laidByText := true, laidKinds := [.data], laidTests := true, laidLooks := .later }
def WalkLeaveUptoCardSaid : Prop := Claim7.holds Tryd.pinned (.plain (OpenSpec.upto walkLeaveSpec)) walkLeaveUptoCard

/-- THE SECOND FORM's CARD OF 'replicalaw13.WalkExtents'. -/
def walkExtentsUptoCard : Claim7 := { stood := { row := walkExtentsUptoRow, standIns := [], harness := (true, "cefe4d6682b02772fb3ea6b997f08f829945dfa7508277f38c272fece7fff8e5"), looks := false }, kinds := [], alts := [], laidByText := true, laidKinds := [.data], laidTests := true, laidLooks := .later }
def WalkExtentsUptoCardSaid : Prop := Claim7.holds Tryd.pinned (.plain (OpenSpec.upto walkExtentsSpec)) walkExtentsUptoCard
end Rows
end Go.Proofs.YtdhccjmokmdboaaDoor
