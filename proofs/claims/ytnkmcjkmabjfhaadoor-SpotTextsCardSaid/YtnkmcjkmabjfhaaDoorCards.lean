/-
  DERIVED. GIVEN WITH THE SEED: THE CARDS: each row of YtnkmcjkmabjfhaaDoorRows.lean that lists a variable, with what it lists TIED to the program's text (the seventh form; the later family's looks); each row that meets fmt, with fmt's text TOLD by the authors' own Lean function (tested against real Go, not proved from fmt's source: count such statements apart). THE CARD IS WHAT COUNTS. Prove the row's statement (the work); the ties are given (YtnkmcjkmabjfhaaDoorTie.lean); close each card by the builder's one call (the guide's Derived/Test/ToyasCard.lean, 'card_holds'). Laid BY PROGRAM, IN A SANDBOX (cutbox-door.mjs). By AI agents, Wed Nov 11 2026. No macro, syntax, notation, axiom, sorry.
-/
import Derived.Test.YtnkmcjkmabjfhaaDoorRows
import GoSem.ClaimSeven
namespace Go.Proofs.YtnkmcjkmabjfhaaDoor
namespace Rows

/-- THE TIED CARD OF 'recensionlaw01.SpotOf'. -/
def spotOfCard : Claim7 := { stood := { row := spotOfRow, standIns := [], harness := (true, "a30fc4589a40550f993a4ecea24cfa2302bb4552d65abf9a3f35ee34d3c618e8"), looks := true }, kinds := [], alts := [], laidByText := true, laidKinds := [.data, .data, .data], laidTests := true, laidLooks := .later }
def SpotOfCardSaid : Prop := Claim7.holds Tryd.pinned (.plain (OpenSpec.ofChange spotOfSpec)) spotOfCard

/-- THE TIED CARD OF 'recensionlaw01.SpotIs'. -/
def spotIsCard : Claim7 := { stood := { row := spotIsRow, standIns := [], harness := (true, "a30fc4589a40550f993a4ecea24cfa2302bb4552d65abf9a3f35ee34d3c618e8"), looks := true }, kinds := [], alts := [], laidByText := true, laidKinds := [.data, .data, .data], laidTests := true, laidLooks := .later }
def SpotIsCardSaid : Prop := Claim7.holds Tryd.pinned (.plain (OpenSpec.ofChange spotIsSpec)) spotIsCard

/-- THE TIED CARD OF 'recensionlaw01.SpotJoins'. -/
def spotJoinsCard : Claim7 := { stood := { row := spotJoinsRow, standIns := [], harness := (true, "a30fc4589a40550f993a4ecea24cfa2302bb4552d65abf9a3f35ee34d3c618e8"), looks := true }, kinds := [], alts := [], laidByText := true, laidKinds := [.data, .data, .data], laidTests := true, laidLooks := .later }
def SpotJoinsCardSaid : Prop := Claim7.holds Tryd.pinned (.plain (OpenSpec.ofChange spotJoinsSpec)) spotJoinsCard

/-- THE TIED CARD OF 'recensionlaw01.SpotAdds'. -/
def spotAddsCard : Claim7 := { stood := { row := spotAddsRow, standIns := [], harness := (true, "a30fc4589a40550f993a4ecea24cfa2302bb4552d65abf9a3f35ee34d3c618e8"), looks := true }, kinds := [], alts := [], laidByText := true, laidKinds := [.data, .data, .data], laidTests := true, laidLooks := .later }
def SpotAddsCardSaid : Prop := Claim7.holds Tryd.pinned (.plain (OpenSpec.ofChange spotAddsSpec)) spotAddsCard

/-- THE TIED CARD OF 'recensionlaw01.SpotGroups'. -/
def spotGroupsCard : Claim7 := { stood := { row := spotGroupsRow, standIns := [], harness := (true, "a30fc4589a40550f993a4ecea24cfa2302bb4552d65abf9a3f35ee34d3c618e8"), looks := true }, kinds := [], alts := [], laidByText := true, laidKinds := [.data, .data, .data], laidTests := true, laidLooks := .later }
def SpotGroupsCardSaid : Prop := Claim7.holds Tryd.pinned (.plain (OpenSpec.ofChange spotGroupsSpec)) spotGroupsCard

/-- THE TIED CARD OF 'recensionlaw01.SpotAts'. -/
def spotAtsCard : Claim7 := { stood := { row := spotAtsRow, standIns := [], harness := (true, "a30fc4589a40550f993a4ecea24cfa2302bb4552d65abf9a3f35ee34d3c618e8"), looks := true }, kinds := [], alts := [], laidByText := true, laidKinds := [.data, .data, .data], laidTests := true, laidLooks := .later }
def SpotAtsCardSaid : Prop := Claim7.holds Tryd.pinned (.plain (OpenSpec.ofChange spotAtsSpec)) spotAtsCard

/-- THE TIED CARD OF 'recensionlaw01.SpotOrders'. -/
def spotOrdersCard : Claim7 := { stood := { row := spotOrdersRow, standIns := [], harness := (true, "a30fc4589a40550f993a4ecea24cfa2302bb4552d65abf9a3f35ee34d3c618e8"), looks := true }, kinds := [], alts := [], laidByText := true, laidKinds := [.data, .data, .data], laidTests := true, laidLooks := .later }
def SpotOrdersCardSaid : Prop := Claim7.holds Tryd.pinned (.plain (OpenSpec.ofChange spotOrdersSpec)) spotOrdersCard

/-- THE TIED CARD OF 'recensionlaw01.SpotFinds'. -/
def spotFindsCard : Claim7 := { stood := { row := spotFindsRow, standIns := [], harness := (true, "a30fc4589a40550f993a4ecea24cfa2302bb4552d65abf9a3f35ee34d3c618e8"), looks := true }, kinds := [], alts := [], laidByText := true, laidKinds := [.data, .data, .data], laidTests := true, laidLooks := .later }
def SpotFindsCardSaid : Prop := Claim7.holds Tryd.pinned (.plain (OpenSpec.ofChange spotFindsSpec)) spotFindsCard

/-- THE TIED CARD OF 'recensionlaw01.SpotRises'. -/
def spotRisesCard : Claim7 := { stood := { row := spotRisesRow, standIns := [], harness := (true, "a30fc4589a40550f993a4ecea24cfa2302bb4552d65abf9a3f35ee34d3c618e8"), looks := true }, kinds := [], alts := [], laidByText := true, laidKinds := [.data, .data, .data], laidTests := true, laidLooks := .later }
def SpotRisesCardSaid : Prop := Claim7.holds Tryd.pinned (.plain (OpenSpec.ofChange spotRisesSpec)) spotRisesCard

/-- THE TIED CARD OF 'recensionlaw01.SpotBack'. -/
def spotBackCard : Claim7 := { stood := { row := spotBackRow, standIns := [], harness := (true, "a30fc4589a40550f993a4ecea24cfa2302bb4552d65abf9a3f35ee34d3c618e8"), looks := true }, kinds := [], alts := [], laidByText := true, laidKinds := [.data, .data, .data], laidTests := true, laidLooks := .later }
def SpotBackCardSaid : Prop := Claim7.holds Tryd.pinned (.plain (OpenSpec.ofChange spotBackSpec)) spotBackCard

/-- THE TIED CARD OF 'recensionlaw01.SpotTexts'. -/
def spotTextsCard : Claim7 := { stood := { row := spotTextsRow, standIns := [], harness := (true, "a30fc4589a40550f993a4ecea24cfa2302bb4552d65abf9a3f35ee34d3c618e8"), looks := true }, kinds := [], alts := [], laidByText := true, laidKinds := [.data, .data, .data, .sentinel, .sentinel], laidTests := true, laidLooks := .later }
def SpotTextsCardSaid : Prop := Claim7.holds Tryd.pinned (.plain (OpenSpec.ofChange spotTextsSpec)) spotTextsCard

/-- THE TIED CARD OF 'recensionlaw01.SpotReads'. -/
def spotReadsCard : Claim7 := { stood := { row := spotReadsRow, standIns := [], harness := (true, "a30fc4589a40550f993a4ecea24cfa2302bb4552d65abf9a3f35ee34d3c618e8"), looks := true }, kinds := [], alts := [], laidByText := true, laidKinds := [.data, .data, .data, .sentinel, .sentinel], laidTests := true, laidLooks := .later }
def SpotReadsCardSaid : Prop := Claim7.holds Tryd.pinned (.plain (OpenSpec.ofChange spotReadsSpec)) spotReadsCard

/-- THE SECOND FORM's CARD OF 'recensionlaw01.SpotOf'. -/
def spotOfUptoCard : Claim7 := { stood := { row := spotOfUptoRow, standIns := [], harness := (true, "a30fc4589a40550f993a4ecea24cfa2302bb4552d65abf9a3f35ee34d3c618e8"), looks := true }, kinds := [], alts := [], laidByText := true, laidKinds := [.data, .data, .data], laidTests := true, laidLooks := .later }
def SpotOfUptoCardSaid : Prop := Claim7.holds Tryd.pinned (.plain (OpenSpec.upto spotOfSpec)) spotOfUptoCard

/-- THE SECOND FORM's CARD OF 'recensionlaw01.SpotIs'. -/
def spotIsUptoCard : Claim7 := { stood := { row := spotIsUptoRow, standIns := [], harness := (true, "a30fc4589a40550f993a4ecea24cfa2302bb4552d65abf9a3f35ee34d3c618e8"), looks := true }, kinds := [], alts := [], laidByText := true, laidKinds := [.data, .data, .data], laidTests := true, laidLooks := .later }
def SpotIsUptoCardSaid : Prop := Claim7.holds Tryd.pinned (.plain (OpenSpec.upto spotIsSpec)) spotIsUptoCard

/-- THE SECOND FORM's CARD OF 'recensionlaw01.SpotJoins'. -/
def spotJoinsUptoCard : Claim7 := { stood := { row := spotJoinsUptoRow, standIns := [], harness := (true, "a30fc4589a40550f993a4ecea24cfa2302bb4552d65abf9a3f35ee34d3c618e8"), looks := true }, kinds := [], alts := [], laidByText := true, laidKinds := [.data, .data, .data], laidTests := true, laidLooks := .later }
def SpotJoinsUptoCardSaid : Prop := Claim7.holds Tryd.pinned (.plain (OpenSpec.upto spotJoinsSpec)) spotJoinsUptoCard

/-- THE SECOND FORM's CARD OF 'recensionlaw01.SpotAdds'. -/
def spotAddsUptoCard : Claim7 := { stood := { row := spotAddsUptoRow, standIns := [], harness := (true, "a30fc4589a40550f993a4ecea24cfa2302bb4552d65abf9a3f35ee34d3c618e8"), looks := true }, kinds := [], alts := [], laidByText := true, laidKinds := [.data, .data, .data], laidTests := true, laidLooks := .later }
def SpotAddsUptoCardSaid : Prop := Claim7.holds Tryd.pinned (.plain (OpenSpec.upto spotAddsSpec)) spotAddsUptoCard

/-- THE SECOND FORM's CARD OF 'recensionlaw01.SpotGroups'. -/
def spotGroupsUptoCard : Claim7 := { stood := { row := spotGroupsUptoRow, standIns := [], harness := (true, "a30fc4589a40550f993a4ecea24cfa2302bb4552d65abf9a3f35ee34d3c618e8"), looks := true }, kinds := [], alts := [], laidByText := true, laidKinds := [.data, .data, .data], laidTests := true, laidLooks := .later }
def SpotGroupsUptoCardSaid : Prop := Claim7.holds Tryd.pinned (.plain (OpenSpec.upto spotGroupsSpec)) spotGroupsUptoCard

/-- THE SECOND FORM's CARD OF 'recensionlaw01.SpotAts'. -/
def spotAtsUptoCard : Claim7 := { stood := { row := spotAtsUptoRow, standIns := [], harness := (true, "a30fc4589a40550f993a4ecea24cfa2302bb4552d65abf9a3f35ee34d3c618e8"), looks := true }, kinds := [], alts := [], laidByText := true, laidKinds := [.data, .data, .data], laidTests := true, laidLooks := .later }
def SpotAtsUptoCardSaid : Prop := Claim7.holds Tryd.pinned (.plain (OpenSpec.upto spotAtsSpec)) spotAtsUptoCard

/-- THE SECOND FORM's CARD OF 'recensionlaw01.SpotOrders'. -/
def spotOrdersUptoCard : Claim7 := { stood := { row := spotOrdersUptoRow, standIns := [], harness := (true, "a30fc4589a40550f993a4ecea24cfa2302bb4552d65abf9a3f35ee34d3c618e8"), looks := true }, kinds := [], alts := [], laidByText := true, laidKinds := [.data, .data, .data], laidTests := true, laidLooks := .later }
def SpotOrdersUptoCardSaid : Prop := Claim7.holds Tryd.pinned (.plain (OpenSpec.upto spotOrdersSpec)) spotOrdersUptoCard

/-- THE SECOND FORM's CARD OF 'recensionlaw01.SpotFinds'. -/
def spotFindsUptoCard : Claim7 := { stood := { row := spotFindsUptoRow, standIns := [], harness := (true, "a30fc4589a40550f993a4ecea24cfa2302bb4552d65abf9a3f35ee34d3c618e8"), looks := true }, kinds := [], alts := [], laidByText := true, laidKinds := [.data, .data, .data], laidTests := true, laidLooks := .later }
def SpotFindsUptoCardSaid : Prop := Claim7.holds Tryd.pinned (.plain (OpenSpec.upto spotFindsSpec)) spotFindsUptoCard

/-- THE SECOND FORM's CARD OF 'recensionlaw01.SpotRises'. -/
def spotRisesUptoCard : Claim7 := { stood := { row := spotRisesUptoRow, standIns := [], harness := (true, "a30fc4589a40550f993a4ecea24cfa2302bb4552d65abf9a3f35ee34d3c618e8"), looks := true }, kinds := [], alts := [], laidByText := true, laidKinds := [.data, .data, .data], laidTests := true, laidLooks := .later }
def SpotRisesUptoCardSaid : Prop := Claim7.holds Tryd.pinned (.plain (OpenSpec.upto spotRisesSpec)) spotRisesUptoCard

/-- THE SECOND FORM's CARD OF 'recensionlaw01.SpotBack'. -/
def spotBackUptoCard : Claim7 := { stood := { row := spotBackUptoRow, standIns := [], harness := (true, "a30fc4589a40550f993a4ecea24cfa2302bb4552d65abf9a3f35ee34d3c618e8"), looks := true }, kinds := [], alts := [], laidByText := true, laidKinds := [.data, .data, .data], laidTests := true, laidLooks := .later }
def SpotBackUptoCardSaid : Prop := Claim7.holds Tryd.pinned (.plain (OpenSpec.upto spotBackSpec)) spotBackUptoCard

/-- THE SECOND FORM's CARD OF 'recensionlaw01.SpotTexts'. -/
def spotTextsUptoCard : Claim7 := { stood := { row := spotTextsUptoRow, standIns := [], harness := (true, "a30fc4589a40550f993a4ecea24cfa2302bb4552d65abf9a3f35ee34d3c618e8"), looks := true }, kinds := [], alts := [], laidByText := true, laidKinds := [.data, .data, .data, .sentinel, .sentinel], laidTests := true, laidLooks := .later }
def SpotTextsUptoCardSaid : Prop := Claim7.holds Tryd.pinned (.plain (OpenSpec.upto spotTextsSpec)) spotTextsUptoCard

/-- THE SECOND FORM's CARD OF 'recensionlaw01.SpotReads'. -/
def spotReadsUptoCard : Claim7 := { stood := { row := spotReadsUptoRow, standIns := [], harness := (true, "a30fc4589a40550f993a4ecea24cfa2302bb4552d65abf9a3f35ee34d3c618e8"), looks := true }, kinds := [], alts := [], laidByText := true, laidKinds := [.data, .data, .data, .sentinel, .sentinel], laidTests := true, laidLooks := .later }
def SpotReadsUptoCardSaid : Prop := Claim7.holds Tryd.pinned (.plain (OpenSpec.upto spotReadsSpec)) spotReadsUptoCard
end Rows
end Go.Proofs.YtnkmcjkmabjfhaaDoor
