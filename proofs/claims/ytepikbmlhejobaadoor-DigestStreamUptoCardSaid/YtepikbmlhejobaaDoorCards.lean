/-
  DERIVED. GIVEN WITH THE SEED: THE CARDS: each row of YtepikbmlhejobaaDoorRows.lean that lists a variable, with what it lists TIED to the program's text (the seventh form; the later family's looks); each row that meets fmt, with fmt's text TOLD by the authors' own Lean function (tested against real Go, not proved from fmt's source: count such statements apart). THE CARD IS WHAT COUNTS. Prove the row's statement (the work); the ties are given (YtepikbmlhejobaaDoorTie.lean); close each card by the builder's one call (the guide's Derived/Test/ToyasCard.lean, 'card_holds'). Laid BY PROGRAM, IN A SANDBOX (cutbox-door.mjs). By AI agents, Wed Nov 11 2026. No macro, syntax, notation, axiom, sorry.
-/
import Derived.Test.YtepikbmlhejobaaDoorRows
import GoSem.ClaimSeven
namespace Go.Proofs.YtepikbmlhejobaaDoor
namespace Rows

/-- THE TIED CARD OF 'replicalaw01.DigestStream'. -/
def digestStreamCard : Claim7 := { stood := { row := digestStreamRow, standIns := [], harness := (true, "998bd76a0a6f52b056df3a3057188220a8ce4bf6575df5a8755253f08eb6c95d"), looks := false }, kinds := [], alts := [], laidByText := true, laidKinds := [.data, .data, .data, .data], laidTests := true, laidLooks := .later }
def DigestStreamCardSaid : Prop := Claim7.holds Tryd.pinned (.plain (OpenSpec.ofChange digestStreamSpec)) digestStreamCard

/-- THE TIED CARD OF 'replicalaw01.DigestSum'. -/
def digestSumCard : Claim7 := { stood := { row := digestSumRow, standIns := [], harness := (true, "998bd76a0a6f52b056df3a3057188220a8ce4bf6575df5a8755253f08eb6c95d"), looks := false }, kinds := [], alts := [], laidByText := true, laidKinds := [.data, .data, .data, .data], laidTests := true, laidLooks := .later }
def DigestSumCardSaid : Prop := Claim7.holds Tryd.pinned (.plain (OpenSpec.ofChange digestSumSpec)) digestSumCard

/-- THE TIED CARD OF 'replicalaw01.DigestRoots'. -/
def digestRootsCard : Claim7 := { stood := { row := digestRootsRow, standIns := [], harness := (true, "998bd76a0a6f52b056df3a3057188220a8ce4bf6575df5a8755253f08eb6c95d"), looks := false }, kinds := [], alts := [], laidByText := true, laidKinds := [.data, .data], laidTests := true, laidLooks := .later }
def DigestRootsCardSaid : Prop := Claim7.holds Tryd.pinned (.plain (OpenSpec.ofChange digestRootsSpec)) digestRootsCard

/-- THE TIED CARD OF 'replicalaw01.DigestMac'. -/
def digestMacCard : Claim7 := { stood := { row := digestMacRow, standIns := [], harness := (true, "998bd76a0a6f52b056df3a3057188220a8ce4bf6575df5a8755253f08eb6c95d"), looks := false }, kinds := [], alts := [], laidByText := true, laidKinds := [.data, .data, .data, .data], laidTests := true, laidLooks := .later }
def DigestMacCardSaid : Prop := Claim7.holds Tryd.pinned (.plain (OpenSpec.ofChange digestMacSpec)) digestMacCard

/-- THE TIED CARD OF 'replicalaw01.DigestKeys'. -/
def digestKeysCard : Claim7 := { stood := { row := digestKeysRow, standIns := [], harness := (true, "998bd76a0a6f52b056df3a3057188220a8ce4bf6575df5a8755253f08eb6c95d"), looks := false }, kinds := [], alts := [], laidByText := true, laidKinds := [.data, .data], laidTests := true, laidLooks := .later }
def DigestKeysCardSaid : Prop := Claim7.holds Tryd.pinned (.plain (OpenSpec.ofChange digestKeysSpec)) digestKeysCard

/-- THE TIED CARD OF 'replicalaw01.DigestCrcJoins'. -/
def digestCrcJoinsCard : Claim7 := { stood := { row := digestCrcJoinsRow, standIns := [], harness := (true, "998bd76a0a6f52b056df3a3057188220a8ce4bf6575df5a8755253f08eb6c95d"), looks := false }, kinds := [], alts := [], laidByText := true, laidKinds := [.data, .data], laidTests := true, laidLooks := .later }
def DigestCrcJoinsCardSaid : Prop := Claim7.holds Tryd.pinned (.plain (OpenSpec.ofChange digestCrcJoinsSpec)) digestCrcJoinsCard

/-- THE TIED CARD OF 'replicalaw01.DigestCrcTells'. -/
def digestCrcTellsCard : Claim7 := { stood := { row := digestCrcTellsRow, standIns := [], harness := (true, "998bd76a0a6f52b056df3a3057188220a8ce4bf6575df5a8755253f08eb6c95d"), looks := false }, kinds := [], alts := [], laidByText := true, laidKinds := [.data, .data], laidTests := true, laidLooks := .later }
def DigestCrcTellsCardSaid : Prop := Claim7.holds Tryd.pinned (.plain (OpenSpec.ofChange digestCrcTellsSpec)) digestCrcTellsCard

/-- THE TIED CARD OF 'replicalaw01.DigestCrcOdd'. -/
def digestCrcOddCard : Claim7 := { stood := { row := digestCrcOddRow, standIns := [], harness := (true, "998bd76a0a6f52b056df3a3057188220a8ce4bf6575df5a8755253f08eb6c95d"), looks := false }, kinds := [], alts := [], laidByText := true, laidKinds := [.data, .data], laidTests := true, laidLooks := .later }
def DigestCrcOddCardSaid : Prop := Claim7.holds Tryd.pinned (.plain (OpenSpec.ofChange digestCrcOddSpec)) digestCrcOddCard

/-- THE TIED CARD OF 'replicalaw01.DigestCrcSums'. -/
def digestCrcSumsCard : Claim7 := { stood := { row := digestCrcSumsRow, standIns := [], harness := (true, "998bd76a0a6f52b056df3a3057188220a8ce4bf6575df5a8755253f08eb6c95d"), looks := false }, kinds := [], alts := [], laidByText := true, laidKinds := [.data, .data], laidTests := true, laidLooks := .later }
def DigestCrcSumsCardSaid : Prop := Claim7.holds Tryd.pinned (.plain (OpenSpec.ofChange digestCrcSumsSpec)) digestCrcSumsCard

/-- THE TIED CARD OF 'replicalaw01.DigestPieces'. -/
def digestPiecesCard : Claim7 := { stood := { row := digestPiecesRow, standIns := [], harness := (true, "998bd76a0a6f52b056df3a3057188220a8ce4bf6575df5a8755253f08eb6c95d"), looks := false }, kinds := [], alts := [], laidByText := true, laidKinds := [.data, .data], laidTests := true, laidLooks := .later }
def DigestPiecesCardSaid : Prop := Claim7.holds Tryd.pinned (.plain (OpenSpec.ofChange digestPiecesSpec)) digestPiecesCard

/-- THE SECOND FORM's CARD OF 'replicalaw01.DigestStream'. -/
def digestStreamUptoCard : Claim7 := { stood := { row := digestStreamUptoRow, standIns := [], harness := (true, "998bd76a0a6f52b056df3a3057188220a8ce4bf6575df5a8755253f08eb6c95d"), looks := false }, kinds := [], alts := [], laidByText := true, laidKinds := [.data, .data, .data, .data], laidTests := true, laidLooks := .later }
def DigestStreamUptoCardSaid : Prop := Claim7.holds Tryd.pinned (.plain (OpenSpec.upto digestStreamSpec)) digestStreamUptoCard

/-- THE SECOND FORM's CARD OF 'replicalaw01.DigestSum'. -/
def digestSumUptoCard : Claim7 := { stood := { row := digestSumUptoRow, standIns := [], harness := (true, "998bd76a0a6f52b056df3a3057188220a8ce4bf6575df5a8755253f08eb6c95d"), looks := false }, kinds := [], alts := [], laidByText := true, laidKinds := [.data, .data, .data, .data], laidTests := true, laidLooks := .later }
def DigestSumUptoCardSaid : Prop := Claim7.holds Tryd.pinned (.plain (OpenSpec.upto digestSumSpec)) digestSumUptoCard

/-- THE SECOND FORM's CARD OF 'replicalaw01.DigestRoots'. -/
def digestRootsUptoCard : Claim7 := { stood := { row := digestRootsUptoRow, standIns := [], harness := (true, "998bd76a0a6f52b056df3a3057188220a8ce4bf6575df5a8755253f08eb6c95d"), looks := false }, kinds := [], alts := [], laidByText := true, laidKinds := [.data, .data], laidTests := true, laidLooks := .later }
def DigestRootsUptoCardSaid : Prop := Claim7.holds Tryd.pinned (.plain (OpenSpec.upto digestRootsSpec)) digestRootsUptoCard

/-- THE SECOND FORM's CARD OF 'replicalaw01.DigestMac'. -/
def digestMacUptoCard : Claim7 := { stood := { row := digestMacUptoRow, standIns := [], harness := (true, "998bd76a0a6f52b056df3a3057188220a8ce4bf6575df5a8755253f08eb6c95d"), looks := false }, kinds := [], alts := [], laidByText := true, laidKinds := [.data, .data, .data, .data], laidTests := true, laidLooks := .later }
def DigestMacUptoCardSaid : Prop := Claim7.holds Tryd.pinned (.plain (OpenSpec.upto digestMacSpec)) digestMacUptoCard

/-- THE SECOND FORM's CARD OF 'replicalaw01.DigestKeys'. -/
def digestKeysUptoCard : Claim7 := { stood := { row := digestKeysUptoRow, standIns := [], harness := (true, "998bd76a0a6f52b056df3a3057188220a8ce4bf6575df5a8755253f08eb6c95d"), looks := false }, kinds := [], alts := [], laidByText := true, laidKinds := [.data, .data], laidTests := true, laidLooks := .later }
def DigestKeysUptoCardSaid : Prop := Claim7.holds Tryd.pinned (.plain (OpenSpec.upto digestKeysSpec)) digestKeysUptoCard

/-- THE SECOND FORM's CARD OF 'replicalaw01.DigestCrcJoins'. -/
def digestCrcJoinsUptoCard : Claim7 := { stood := { row := digestCrcJoinsUptoRow, standIns := [], harness := (true, "998bd76a0a6f52b056df3a3057188220a8ce4bf6575df5a8755253f08eb6c95d"), looks := false }, kinds := [], alts := [], laidByText := true, laidKinds := [.data, .data], laidTests := true, laidLooks := .later }
def DigestCrcJoinsUptoCardSaid : Prop := Claim7.holds Tryd.pinned (.plain (OpenSpec.upto digestCrcJoinsSpec)) digestCrcJoinsUptoCard

/-- THE SECOND FORM's CARD OF 'replicalaw01.DigestCrcTells'. -/
def digestCrcTellsUptoCard : Claim7 := { stood := { row := digestCrcTellsUptoRow, standIns := [], harness := (true, "998bd76a0a6f52b056df3a3057188220a8ce4bf6575df5a8755253f08eb6c95d"), looks := false }, kinds := [], alts := [], laidByText := true, laidKinds := [.data, .data], laidTests := true, laidLooks := .later }
def DigestCrcTellsUptoCardSaid : Prop := Claim7.holds Tryd.pinned (.plain (OpenSpec.upto digestCrcTellsSpec)) digestCrcTellsUptoCard

/-- THE SECOND FORM's CARD OF 'replicalaw01.DigestCrcOdd'. -/
def digestCrcOddUptoCard : Claim7 := { stood := { row := digestCrcOddUptoRow, standIns := [], harness := (true, "998bd76a0a6f52b056df3a3057188220a8ce4bf6575df5a8755253f08eb6c95d"), looks := false }, kinds := [], alts := [], laidByText := true, laidKinds := [.data, .data], laidTests := true, laidLooks := .later }
def DigestCrcOddUptoCardSaid : Prop := Claim7.holds Tryd.pinned (.plain (OpenSpec.upto digestCrcOddSpec)) digestCrcOddUptoCard

/-- THE SECOND FORM's CARD OF 'replicalaw01.DigestCrcSums'. -/
def digestCrcSumsUptoCard : Claim7 := { stood := { row := digestCrcSumsUptoRow, standIns := [], harness := (true, "998bd76a0a6f52b056df3a3057188220a8ce4bf6575df5a8755253f08eb6c95d"), looks := false }, kinds := [], alts := [], laidByText := true, laidKinds := [.data, .data], laidTests := true, laidLooks := .later }
def DigestCrcSumsUptoCardSaid : Prop := Claim7.holds Tryd.pinned (.plain (OpenSpec.upto digestCrcSumsSpec)) digestCrcSumsUptoCard

/-- THE SECOND FORM's CARD OF 'replicalaw01.DigestPieces'. -/
def digestPiecesUptoCard : Claim7 := { stood := { row := digestPiecesUptoRow, standIns := [], harness := (true, "998bd76a0a6f52b056df3a3057188220a8ce4bf6575df5a8755253f08eb6c95d"), looks := false }, kinds := [], alts := [], laidByText := true, laidKinds := [.data, .data], laidTests := true, laidLooks := .later }
def DigestPiecesUptoCardSaid : Prop := Claim7.holds Tryd.pinned (.plain (OpenSpec.upto digestPiecesSpec)) digestPiecesUptoCard
end Rows
end Go.Proofs.YtepikbmlhejobaaDoor
