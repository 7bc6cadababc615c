/-
  DERIVED. GIVEN WITH THE SEED: THE CARDS: each row of YtahjfnnmaalnoaaDoorRows.lean that lists a variable, with what it lists TIED to the program's text (the seventh form; the later family's looks); each row that meets fmt, with fmt's text TOLD by the authors' own Lean function (tested against real Go, not proved from fmt's source: count such statements apart). THE CARD IS WHAT COUNTS. Prove the row's statement (the work); the ties are given (YtahjfnnmaalnoaaDoorTie.lean); close each card by the builder's one call (the guide's Derived/Test/ToyasCard.lean, 'card_holds'). Laid BY PROGRAM, IN A SANDBOX (cutbox-door.mjs). By AI agents, Wed Nov 11 2026. No macro, syntax, notation, axiom, sorry.
-/
import Derived.Test.YtahjfnnmaalnoaaDoorRows
import GoSem.ClaimSeven
namespace Go.Proofs.YtahjfnnmaalnoaaDoor
namespace Rows

/-- THE TIED CARD OF 'recensionlaw03.DigestSums'. -/
def digestSumsCard : Claim7 := { stood := { row := digestSumsRow, standIns := [], harness := (true, "198bfd78c6468cede578c790716fbd65a66ef031615b4991d1c705d68b89f98a"), looks := false }, kinds := [], alts := [], laidByText := true, laidKinds := [.data], laidTests := true, laidLooks := .later }
def DigestSumsCardSaid : Prop := Claim7.holds Tryd.pinned (.plain (OpenSpec.ofChange digestSumsSpec)) digestSumsCard

/-- THE TIED CARD OF 'recensionlaw03.DigestKnown'. -/
def digestKnownCard : Claim7 := { stood := { row := digestKnownRow, standIns := [], harness := (true, "198bfd78c6468cede578c790716fbd65a66ef031615b4991d1c705d68b89f98a"), looks := false }, kinds := [], alts := [], laidByText := true, laidKinds := [.data], laidTests := true, laidLooks := .later }
def DigestKnownCardSaid : Prop := Claim7.holds Tryd.pinned (.plain (OpenSpec.ofChange digestKnownSpec)) digestKnownCard

/-- THE TIED CARD OF 'recensionlaw03.DigestOrders'. -/
def digestOrdersCard : Claim7 := { stood := { row := digestOrdersRow, standIns := [], harness := (true, "198bfd78c6468cede578c790716fbd65a66ef031615b4991d1c705d68b89f98a"), looks := false }, kinds := [], alts := [], laidByText := true, laidKinds := [.data], laidTests := true, laidLooks := .later }
def DigestOrdersCardSaid : Prop := Claim7.holds Tryd.pinned (.plain (OpenSpec.ofChange digestOrdersSpec)) digestOrdersCard

/-- THE TIED CARD OF 'recensionlaw03.DigestSorts'. -/
def digestSortsCard : Claim7 := { stood := { row := digestSortsRow, standIns := [], harness := (true, "198bfd78c6468cede578c790716fbd65a66ef031615b4991d1c705d68b89f98a"), looks := false }, kinds := [], alts := [], laidByText := true, laidKinds := [.data], laidTests := true, laidLooks := .later }
def DigestSortsCardSaid : Prop := Claim7.holds Tryd.pinned (.plain (OpenSpec.ofChange digestSortsSpec)) digestSortsCard

/-- THE TIED CARD OF 'recensionlaw03.DigestPieces'. -/
def digestPiecesCard : Claim7 := { stood := { row := digestPiecesRow, standIns := [], harness := (true, "198bfd78c6468cede578c790716fbd65a66ef031615b4991d1c705d68b89f98a"), looks := false }, kinds := [], alts := [], laidByText := true, laidKinds := [.data], laidTests := true, laidLooks := .later }
def DigestPiecesCardSaid : Prop := Claim7.holds Tryd.pinned (.plain (OpenSpec.ofChange digestPiecesSpec)) digestPiecesCard

/-- THE TIED CARD OF 'recensionlaw03.DigestPlays'. -/
def digestPlaysCard : Claim7 := { stood := { row := digestPlaysRow, standIns := [], harness := (true, "198bfd78c6468cede578c790716fbd65a66ef031615b4991d1c705d68b89f98a"), looks := false }, kinds := [], alts := [], laidByText := true, laidKinds := [.data], laidTests := true, laidLooks := .later }
def DigestPlaysCardSaid : Prop := Claim7.holds Tryd.pinned (.plain (OpenSpec.ofChange digestPlaysSpec)) digestPlaysCard

/-- THE TIED CARD OF 'recensionlaw03.DigestNobody'. -/
def digestNobodyCard : Claim7 := { stood := { row := digestNobodyRow, standIns := [], harness := (true, "198bfd78c6468cede578c790716fbd65a66ef031615b4991d1c705d68b89f98a"), looks := false }, kinds := [], alts := [], laidByText := true, laidKinds := [.data], laidTests := true, laidLooks := .later }
def DigestNobodyCardSaid : Prop := Claim7.holds Tryd.pinned (.plain (OpenSpec.ofChange digestNobodySpec)) digestNobodyCard

/-- THE TIED CARD OF 'recensionlaw03.DigestHexes'. -/
def digestHexesCard : Claim7 := { stood := { row := digestHexesRow, standIns := [], harness := (true, "198bfd78c6468cede578c790716fbd65a66ef031615b4991d1c705d68b89f98a"), looks := false }, kinds := [], alts := [], laidByText := true, laidKinds := [.data], laidTests := true, laidLooks := .later }
def DigestHexesCardSaid : Prop := Claim7.holds Tryd.pinned (.plain (OpenSpec.ofChange digestHexesSpec)) digestHexesCard

/-- THE TIED CARD OF 'recensionlaw03.DigestBack'. -/
def digestBackCard : Claim7 := { stood := { row := digestBackRow, standIns := [], harness := (true, "198bfd78c6468cede578c790716fbd65a66ef031615b4991d1c705d68b89f98a"), looks := false }, kinds := [], alts := [], laidByText := true, laidKinds := [.data], laidTests := true, laidLooks := .later }
def DigestBackCardSaid : Prop := Claim7.holds Tryd.pinned (.plain (OpenSpec.ofChange digestBackSpec)) digestBackCard

/-- THE SECOND FORM's CARD OF 'recensionlaw03.DigestSums'. -/
def digestSumsUptoCard : Claim7 := { stood := { row := digestSumsUptoRow, standIns := [], harness := (true, "198bfd78c6468cede578c790716fbd65a66ef031615b4991d1c705d68b89f98a"), looks := false }, kinds := [], alts := [], laidByText := true, laidKinds := [.data], laidTests := true, laidLooks := .later }
def DigestSumsUptoCardSaid : Prop := Claim7.holds Tryd.pinned (.plain (OpenSpec.upto digestSumsSpec)) digestSumsUptoCard

/-- THE SECOND FORM's CARD OF 'recensionlaw03.DigestKnown'. -/
def digestKnownUptoCard : Claim7 := { stood := { row := digestKnownUptoRow, standIns := [], harness := (true, "198bfd78c6468cede578c790716fbd65a66ef031615b4991d1c705d68b89f98a"), looks := false }, kinds := [], alts := [], laidByText := true, laidKinds := [.data], laidTests := true, laidLooks := .later }
def DigestKnownUptoCardSaid : Prop := Claim7.holds Tryd.pinned (.plain (OpenSpec.upto digestKnownSpec)) digestKnownUptoCard

/-- THE SECOND FORM's CARD OF 'recensionlaw03.DigestOrders'. -/
def digestOrdersUptoCard : Claim7 := { stood := { row := digestOrdersUptoRow, standIns := [], harness := (true, "198bfd78c6468cede578c790716fbd65a66ef031615b4991d1c705d68b89f98a"), looks := false }, kinds := [], alts := [], laidByText := true, laidKinds := [.data], laidTests := true, laidLooks := .later }
def DigestOrdersUptoCardSaid : Prop := Claim7.holds Tryd.pinned (.plain (OpenSpec.upto digestOrdersSpec)) digestOrdersUptoCard

/-- THE SECOND FORM's CARD OF 'recensionlaw03.DigestSorts'. -/
def digestSortsUptoCard : Claim7 := { stood := { row := digestSortsUptoRow, standIns := [], harness := (true, "198bfd78c6468cede578c790716fbd65a66ef031615b4991d1c705d68b89f98a"), looks := false }, kinds := [], alts := [], laidByText := true, laidKinds := [.data], laidTests := true, laidLooks := .later }
def DigestSortsUptoCardSaid : Prop := Claim7.holds Tryd.pinned (.plain (OpenSpec.upto digestSortsSpec)) digestSortsUptoCard

/-- THE SECOND FORM's CARD OF 'recensionlaw03.DigestPieces'. -/
def digestPiecesUptoCard : Claim7 := { stood := { row := digestPiecesUptoRow, standIns := [], harness := (true, "198bfd78c6468cede578c790716fbd65a66ef031615b4991d1c705d68b89f98a"), looks := false }, kinds := [], alts := [], laidByText := true, laidKinds := [.data], laidTests := true, laidLooks := .later }
def DigestPiecesUptoCardSaid : Prop := Claim7.holds Tryd.pinned (.plain (OpenSpec.upto digestPiecesSpec)) digestPiecesUptoCard

/-- THE SECOND FORM's CARD OF 'recensionlaw03.DigestPlays'. -/
def digestPlaysUptoCard : Claim7 := { stood := { row := digestPlaysUptoRow, standIns := [], harness := (true, "198bfd78c6468cede578c790716fbd65a66ef031615b4991d1c705d68b89f98a"), looks := false }, kinds := [], alts := [], laidByText := true, laidKinds := [.data], laidTests := true, laidLooks := .later }
def DigestPlaysUptoCardSaid : Prop := Claim7.holds Tryd.pinned (.plain (OpenSpec.upto digestPlaysSpec)) digestPlaysUptoCard

/-- THE SECOND FORM's CARD OF 'recensionlaw03.DigestNobody'. -/
def digestNobodyUptoCard : Claim7 := { stood := { row := digestNobodyUptoRow, standIns := [], harness := (true, "198bfd78c6468cede578c790716fbd65a66ef031615b4991d1c705d68b89f98a"), looks := false }, kinds := [], alts := [], laidByText := true, laidKinds := [.data], laidTests := true, laidLooks := .later }
def DigestNobodyUptoCardSaid : Prop := Claim7.holds Tryd.pinned (.plain (OpenSpec.upto digestNobodySpec)) digestNobodyUptoCard

/-- THE SECOND FORM's CARD OF 'recensionlaw03.DigestHexes'. -/
def digestHexesUptoCard : Claim7 := { stood := { row := digestHexesUptoRow, standIns := [], harness := (true, "198bfd78c6468cede578c790716fbd65a66ef031615b4991d1c705d68b89f98a"), looks := false }, kinds := [], alts := [], laidByText := true, laidKinds := [.data], laidTests := true, laidLooks := .later }
def DigestHexesUptoCardSaid : Prop := Claim7.holds Tryd.pinned (.plain (OpenSpec.upto digestHexesSpec)) digestHexesUptoCard

/-- THE SECOND FORM's CARD OF 'recensionlaw03.DigestBack'. -/
def digestBackUptoCard : Claim7 := { stood := { row := digestBackUptoRow, standIns := [], harness := (true, "198bfd78c6468cede578c790716fbd65a66ef031615b4991d1c705d68b89f98a"), looks := false }, kinds := [], alts := [], laidByText := true, laidKinds := [.data], laidTests := true, laidLooks := .later }
def DigestBackUptoCardSaid : Prop := Claim7.holds Tryd.pinned (.plain (OpenSpec.upto digestBackSpec)) digestBackUptoCard
end Rows
end Go.Proofs.YtahjfnnmaalnoaaDoor
