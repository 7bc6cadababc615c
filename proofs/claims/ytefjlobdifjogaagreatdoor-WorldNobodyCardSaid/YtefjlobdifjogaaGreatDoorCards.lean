/-
  DERIVED. GIVEN WITH THE SEED: THE CARDS: each row of YtefjlobdifjogaaGreatDoorRows.lean that lists a variable, with what it lists TIED to the program's text (the seventh form; the later family's looks); each row that meets fmt, with fmt's text TOLD by the authors' own Lean function (tested against real Go, not proved from fmt's source: count such statements apart). THE CARD IS WHAT COUNTS. Prove the row's statement (the work); the ties are given (YtefjlobdifjogaaGreatDoorTie.lean); close each card by the builder's one call (the guide's Derived/Test/ToyasCard.lean, 'card_holds'). Laid BY PROGRAM, IN A SANDBOX (cutbox-door.mjs). By AI agents, Wed Nov 11 2026. No macro, syntax, notation, axiom, sorry.
-/
import Derived.Test.YtefjlobdifjogaaGreatDoorRows
import GoSem.ClaimSeven
namespace Go.Proofs.YtefjlobdifjogaaGreatDoor
namespace Rows

/-- THE TIED CARD OF 'recensionlaw16.SyncSames'. -/
def syncSamesCard : Claim7 := { stood := { row := syncSamesRow, standIns := [], harness := (true, "9914d9cd9b4431b597bc554380693bbce8208caa4758bf40a66bd89194e00959"), looks := true }, kinds := [], alts := [], laidByText := true, laidKinds := [.data, .data, .pinned], laidTests := true, laidLooks := .later }
def SyncSamesCardSaid : Prop := Claim7.holds Tryz.pinned (.plain (OpenSpec.ofChange syncSamesSpec)) syncSamesCard

/-- THE TIED CARD OF 'recensionlaw16.SyncNobody'. -/
def syncNobodyCard : Claim7 := { stood := { row := syncNobodyRow, standIns := [], harness := (true, "9914d9cd9b4431b597bc554380693bbce8208caa4758bf40a66bd89194e00959"), looks := true }, kinds := [], alts := [], laidByText := true, laidKinds := [.data, .data, .pinned], laidTests := true, laidLooks := .later }
def SyncNobodyCardSaid : Prop := Claim7.holds Tryz.pinned (.plain (OpenSpec.ofChange syncNobodySpec)) syncNobodyCard

/-- THE TIED CARD OF 'recensionlaw16.SyncBack'. -/
def syncBackCard : Claim7 := { stood := { row := syncBackRow, standIns := [], harness := (true, "9914d9cd9b4431b597bc554380693bbce8208caa4758bf40a66bd89194e00959"), looks := true }, kinds := [], alts := [], laidByText := true, laidKinds := [.data, .data, .pinned], laidTests := true, laidLooks := .later }
def SyncBackCardSaid : Prop := Claim7.holds Tryz.pinned (.plain (OpenSpec.ofChange syncBackSpec)) syncBackCard

/-- THE TIED CARD OF 'recensionlaw16.SyncSpoilt'. -/
def syncSpoiltCard : Claim7 := { stood := { row := syncSpoiltRow, standIns := [], harness := (true, "9914d9cd9b4431b597bc554380693bbce8208caa4758bf40a66bd89194e00959"), looks := true }, kinds := [], alts := [], laidByText := true, laidKinds := [.data, .data, .pinned], laidTests := true, laidLooks := .later }
def SyncSpoiltCardSaid : Prop := Claim7.holds Tryz.pinned (.plain (OpenSpec.ofChange syncSpoiltSpec)) syncSpoiltCard

/-- THE TIED CARD OF 'recensionlaw17.WorldNobody'. -/
def worldNobodyCard : Claim7 := { stood := { row := worldNobodyRow, standIns := [], harness := (true, "9914d9cd9b4431b597bc554380693bbce8208caa4758bf40a66bd89194e00959"), looks := true }, kinds := [], alts := [], laidByText := true, laidKinds := [.data, .data, .pinned], laidTests := true, laidLooks := .later }
def WorldNobodyCardSaid : Prop := Claim7.holds Tryz.pinned (.plain (OpenSpec.ofChange worldNobodySpec)) worldNobodyCard

/-- THE TIED CARD OF 'recensionlaw15.RepoNobody'. -/
def repoNobodyCard : Claim7 := { stood := { row := repoNobodyRow, standIns := [], harness := (true, "9914d9cd9b4431b597bc554380693bbce8208caa4758bf40a66bd89194e00959"), looks := true }, kinds := [], alts := [], laidByText := true, laidKinds := [.data, .data, .pinned], laidTests := true, laidLooks := .later }
def RepoNobodyCardSaid : Prop := Claim7.holds Tryz.pinned (.plain (OpenSpec.ofChange repoNobodySpec)) repoNobodyCard

/-- THE SECOND FORM's CARD OF 'recensionlaw16.SyncSames'. -/
def syncSamesUptoCard : Claim7 := { stood := { row := syncSamesUptoRow, standIns := [], harness := (true, "9914d9cd9b4431b597bc554380693bbce8208caa4758bf40a66bd89194e00959"), looks := true }, kinds := [], alts := [], laidByText := true, laidKinds := [.data, .data, .pinned], laidTests := true, laidLooks := .later }
def SyncSamesUptoCardSaid : Prop := Claim7.holds Tryz.pinned (.plain (OpenSpec.upto syncSamesSpec)) syncSamesUptoCard

/-- THE SECOND FORM's CARD OF 'recensionlaw16.SyncNobody'. -/
def syncNobodyUptoCard : Claim7 := { stood := { row := syncNobodyUptoRow, standIns := [], harness := (true, "9914d9cd9b4431b597bc554380693bbce8208caa4758bf40a66bd89194e00959"), looks := true }, kinds := [], alts := [], laidByText := true, laidKinds := [.data, .data, .pinned], laidTests := true, laidLooks := .later }
def SyncNobodyUptoCardSaid : Prop := Claim7.holds Tryz.pinned (.plain (OpenSpec.upto syncNobodySpec)) syncNobodyUptoCard

/-- THE SECOND FORM's CARD OF 'recensionlaw16.SyncBack'. -/
def syncBackUptoCard : Claim7 := { stood := { row := syncBackUptoRow, standIns := [], harness := (true, "9914d9cd9b4431b597bc554380693bbce8208caa4758bf40a66bd89194e00959"), looks := true }, kinds := [], alts := [], laidByText := true, laidKinds := [.data, .data, .pinned], laidTests := true, laidLooks := .later }
def SyncBackUptoCardSaid : Prop := Claim7.holds Tryz.pinned (.plain (OpenSpec.upto syncBackSpec)) syncBackUptoCard

/-- THE SECOND FORM's CARD OF 'recensionlaw16.SyncSpoilt'. -/
def syncSpoiltUptoCard : Claim7 := { stood := { row := syncSpoiltUptoRow, standIns := [], harness := (true, "9914d9cd9b4431b597bc554380693bbce8208caa4758bf40a66bd89194e00959"), looks := true }, kinds := [], alts := [], laidByText := true, laidKinds := [.data, .data, .pinned], laidTests := true, laidLooks := .later }
def SyncSpoiltUptoCardSaid : Prop := Claim7.holds Tryz.pinned (.plain (OpenSpec.upto syncSpoiltSpec)) syncSpoiltUptoCard

/-- THE SECOND FORM's CARD OF 'recensionlaw17.WorldNobody'. -/
def worldNobodyUptoCard : Claim7 := { stood := { row := worldNobodyUptoRow, standIns := [], harness := (true, "9914d9cd9b4431b597bc554380693bbce8208caa4758bf40a66bd89194e00959"), looks := true }, kinds := [], alts := [], laidByText := true, laidKinds := [.data, .data, .pinned], laidTests := true, laidLooks := .later }
def WorldNobodyUptoCardSaid : Prop := Claim7.holds Tryz.pinned (.plain (OpenSpec.upto worldNobodySpec)) worldNobodyUptoCard

/-- THE SECOND FORM's CARD OF 'recensionlaw15.RepoNobody'. -/
def repoNobodyUptoCard : Claim7 := { stood := { row := repoNobodyUptoRow, standIns := [], harness := (true, "9914d9cd9b4431b597bc554380693bbce8208caa4758bf40a66bd89194e00959"), looks := true }, kinds := [], alts := [], laidByText := true, laidKinds := [.data, .data, .pinned], laidTests := true, laidLooks := .later }
def RepoNobodyUptoCardSaid : Prop := Claim7.holds Tryz.pinned (.plain (OpenSpec.upto repoNobodySpec)) repoNobodyUptoCard
end Rows
end Go.Proofs.YtefjlobdifjogaaGreatDoor
