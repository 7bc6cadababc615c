/-
  DERIVED. GIVEN WITH THE SEED: THE CARDS: each row of YtfdimggmljkkbaaGreatDoorRows.lean that lists a variable, with what it lists TIED to the program's text (the seventh form; the later family's looks); each row that meets fmt, with fmt's text TOLD by the authors' own Lean function (tested against real Go, not proved from fmt's source: count such statements apart). THE CARD IS WHAT COUNTS. Prove the row's statement (the work); the ties are given (YtfdimggmljkkbaaGreatDoorTie.lean); close each card by the builder's one call (the guide's Derived/Test/ToyasCard.lean, 'card_holds'). Laid BY PROGRAM, IN A SANDBOX (cutbox-door.mjs). By AI agents, Wed Nov 11 2026. No macro, syntax, notation, axiom, sorry.
-/
import Derived.Test.YtfdimggmljkkbaaGreatDoorRows
import GoSem.ClaimSeven
namespace Go.Proofs.YtfdimggmljkkbaaGreatDoor
namespace Rows

/-- THE TIED CARD OF 'recensionlaw15.RepoNobody'. -/
def repoNobodyCard : Claim7 := { stood := { row := repoNobodyRow, standIns := [], harness := (true, "c44d8fd68c0d9155637484048ff65c0a9f1d3d4cacdb9f109716edd984ebee7d"), looks := true }, kinds := [], alts := [], laidByText := true, laidKinds := [.data, .data, .pinned], laidTests := true, laidLooks := .later }
def RepoNobodyCardSaid : Prop := Claim7.holds Tryz.pinned (.plain (OpenSpec.ofChange repoNobodySpec)) repoNobodyCard

/-- THE SECOND FORM's CARD OF 'recensionlaw15.RepoNobody'. -/
def repoNobodyUptoCard : Claim7 := { stood := { row := repoNobodyUptoRow, standIns := [], harness := (true, "c44d8fd68c0d9155637484048ff65c0a9f1d3d4cacdb9f109716edd984ebee7d"), looks := true }, kinds := [], alts := [], laidByText := true, laidKinds := [.data, .data, .pinned], laidTests := true, laidLooks := .later }
def RepoNobodyUptoCardSaid : Prop := Claim7.holds Tryz.pinned (.plain (OpenSpec.upto repoNobodySpec)) repoNobodyUptoCard
end Rows
end Go.Proofs.YtfdimggmljkkbaaGreatDoor
