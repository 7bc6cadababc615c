/-
  DERIVED. GIVEN WITH THE SEED: THE CARDS: each row of YtamdhaoglapnnaaGreatDoorRows.lean that lists a variable, with what it lists TIED to the program's text (the seventh form; the later family's looks); each row that meets fmt, with fmt's text TOLD by the authors' own Lean function (tested against real Go, not proved from fmt's source: count such statements apart). THE CARD IS WHAT COUNTS. Prove the row's statement (the work); the ties are given (YtamdhaoglapnnaaGreatDoorTie.lean); close each card by the builder's one call (the guide's Derived/Test/ToyasCard.lean, 'card_holds'). Laid BY PROGRAM, IN A SANDBOX (cutbox-door.mjs). By AI agents, Wed Nov 11 2026. No macro, syntax, notation, axiom, sorry.
-/
import Derived.Test.YtamdhaoglapnnaaGreatDoorRows
import GoSem.ClaimSeven
namespace Go.Proofs.YtamdhaoglapnnaaGreatDoor
namespace Rows

/-- THE TIED CARD OF 'recensionlaw18.DeskWords'. -/
def deskWordsCard : Claim7 := { stood := { row := deskWordsRow, standIns := [], harness := (true, "4930767fd4d5ae9b5dadd0e21ea048149a8be33398f14717d5db7ae30eb4f139"), looks := true }, kinds := [], alts := [], laidByText := true, laidKinds := [.data, .data, .data, .data, .sentinel, .sentinel, .data, .pinned], laidTests := true, laidLooks := .later }
def DeskWordsCardSaid : Prop := Claim7.holds Tryz.pinned (.plain (OpenSpec.ofChange deskWordsSpec)) deskWordsCard

/-- THE TIED CARD OF 'recensionlaw18.DeskJoins'. -/
def deskJoinsCard : Claim7 := { stood := { row := deskJoinsRow, standIns := [], harness := (true, "4930767fd4d5ae9b5dadd0e21ea048149a8be33398f14717d5db7ae30eb4f139"), looks := true }, kinds := [], alts := [], laidByText := true, laidKinds := [.data, .data, .data, .data, .sentinel, .sentinel, .data, .pinned], laidTests := true, laidLooks := .later }
def DeskJoinsCardSaid : Prop := Claim7.holds Tryz.pinned (.plain (OpenSpec.ofChange deskJoinsSpec)) deskJoinsCard

/-- THE TIED CARD OF 'recensionlaw18.DeskNobody'. -/
def deskNobodyCard : Claim7 := { stood := { row := deskNobodyRow, standIns := [], harness := (true, "4930767fd4d5ae9b5dadd0e21ea048149a8be33398f14717d5db7ae30eb4f139"), looks := true }, kinds := [], alts := [], laidByText := true, laidKinds := [.data, .data, .data, .data, .sentinel, .sentinel, .data, .pinned], laidTests := true, laidLooks := .later }
def DeskNobodyCardSaid : Prop := Claim7.holds Tryz.pinned (.plain (OpenSpec.ofChange deskNobodySpec)) deskNobodyCard

/-- THE TIED CARD OF 'recensionlaw18.DeskQuotes'. -/
def deskQuotesCard : Claim7 := { stood := { row := deskQuotesRow, standIns := [], harness := (true, "4930767fd4d5ae9b5dadd0e21ea048149a8be33398f14717d5db7ae30eb4f139"), looks := true }, kinds := [], alts := [], laidByText := true, laidKinds := [.data, .data, .data, .data, .sentinel, .sentinel, .data, .pinned], laidTests := true, laidLooks := .later }
def DeskQuotesCardSaid : Prop := Claim7.holds Tryz.pinned (.plain (OpenSpec.ofChange deskQuotesSpec)) deskQuotesCard

/-- THE TIED CARD OF 'recensionlaw18.DeskBack'. -/
def deskBackCard : Claim7 := { stood := { row := deskBackRow, standIns := [], harness := (true, "4930767fd4d5ae9b5dadd0e21ea048149a8be33398f14717d5db7ae30eb4f139"), looks := true }, kinds := [], alts := [], laidByText := true, laidKinds := [.data, .data, .data, .data, .sentinel, .sentinel, .data, .pinned], laidTests := true, laidLooks := .later }
def DeskBackCardSaid : Prop := Claim7.holds Tryz.pinned (.plain (OpenSpec.ofChange deskBackSpec)) deskBackCard

/-- THE SECOND FORM's CARD OF 'recensionlaw18.DeskWords'. -/
def deskWordsUptoCard : Claim7 := { stood := { row := deskWordsUptoRow, standIns := [], harness := (true, "4930767fd4d5ae9b5dadd0e21ea048149a8be33398f14717d5db7ae30eb4f139"), looks := true }, kinds := [], alts := [], laidByText := true, laidKinds := [.data, .data, .data, .data, .sentinel, .sentinel, .data, .pinned], laidTests := true, laidLooks := .later }
def DeskWordsUptoCardSaid : Prop := Claim7.holds Tryz.pinned (.plain (OpenSpec.upto deskWordsSpec)) deskWordsUptoCard

/-- THE SECOND FORM's CARD OF 'recensionlaw18.DeskJoins'. -/
def deskJoinsUptoCard : Claim7 := { stood := { row := deskJoinsUptoRow, standIns := [], harness := (true, "4930767fd4d5ae9b5dadd0e21ea048149a8be33398f14717d5db7ae30eb4f139"), looks := true }, kinds := [], alts := [], laidByText := true, laidKinds := [.data, .data, .data, .data, .sentinel, .sentinel, .data, .pinned], laidTests := true, laidLooks := .later }
def DeskJoinsUptoCardSaid : Prop := Claim7.holds Tryz.pinned (.plain (OpenSpec.upto deskJoinsSpec)) deskJoinsUptoCard

/-- THE SECOND FORM's CARD OF 'recensionlaw18.DeskNobody'. -/
def deskNobodyUptoCard : Claim7 := { stood := { row := deskNobodyUptoRow, standIns := [], harness := (true, "4930767fd4d5ae9b5dadd0e21ea048149a8be33398f14717d5db7ae30eb4f139"), looks := true }, kinds := [], alts := [], laidByText := true, laidKinds := [.data, .data, .data, .data, .sentinel, .sentinel, .data, .pinned], laidTests := true, laidLooks := .later }
def DeskNobodyUptoCardSaid : Prop := Claim7.holds Tryz.pinned (.plain (OpenSpec.upto deskNobodySpec)) deskNobodyUptoCard

/-- THE SECOND FORM's CARD OF 'recensionlaw18.DeskQuotes'. -/
def deskQuotesUptoCard : Claim7 := { stood := { row := deskQuotesUptoRow, standIns := [], harness := (true, "4930767fd4d5ae9b5dadd0e21ea048149a8be33398f14717d5db7ae30eb4f139"), looks := true }, kinds := [], alts := [], laidByText := true, laidKinds := [.data, .data, .data, .data, .sentinel, .sentinel, .data, .pinned], laidTests := true, laidLooks := .later }
def DeskQuotesUptoCardSaid : Prop := Claim7.holds Tryz.pinned (.plain (OpenSpec.upto deskQuotesSpec)) deskQuotesUptoCard

/-- THE SECOND FORM's CARD OF 'recensionlaw18.DeskBack'. -/
def deskBackUptoCard : Claim7 := { stood := { row := deskBackUptoRow, standIns := [], harness := (true, "4930767fd4d5ae9b5dadd0e21ea048149a8be33398f14717d5db7ae30eb4f139"), looks := true }, kinds := [], alts := [], laidByText := true, laidKinds := [.data, .data, .data, .data, .sentinel, .sentinel, .data, .pinned], laidTests := true, laidLooks := .later }
def DeskBackUptoCardSaid : Prop := Claim7.holds Tryz.pinned (.plain (OpenSpec.upto deskBackSpec)) deskBackUptoCard
end Rows
end Go.Proofs.YtamdhaoglapnnaaGreatDoor
