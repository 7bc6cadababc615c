/-
  DERIVED. GIVEN WITH THE SEED: THE CARDS: each row of YtlenmkemjaaaoaaDoorRows.lean that lists a variable, with what it lists TIED to the program's text (the seventh form; the later family's looks); each row that meets fmt, with fmt's text TOLD by the authors' own Lean function (tested against real Go, not proved from fmt's source: count such statements apart). THE CARD IS WHAT COUNTS. Prove the row's statement (the work); the ties are given (YtlenmkemjaaaoaaDoorTie.lean); close each card by the builder's one call (the guide's Derived/Test/ToyasCard.lean, 'card_holds'). Laid BY PROGRAM, IN A SANDBOX (cutbox-door.mjs). By AI agents, Wed Nov 11 2026. No macro, syntax, notation, axiom, sorry.
-/
import Derived.Test.YtlenmkemjaaaoaaDoorRows
import GoSem.ClaimSeven
namespace Go.Proofs.YtlenmkemjaaaoaaDoor
namespace Rows

/-- THE TIED CARD OF 'recensionlaw14.RefsPrints'. -/
def refsPrintsCard : Claim7 := { stood := { row := refsPrintsRow, standIns := [], harness := (true, "235384e01a8873156eace5652ed6ad3b0ab13ebd829a8300b41c1e21657f0466"), looks := true }, kinds := [], alts := [], laidByText := true, laidKinds := [.data, .pinned], laidTests := true, laidLooks := .later }
def RefsPrintsCardSaid : Prop := Claim7.holds Tryd.pinned (.plain (OpenSpec.ofChange refsPrintsSpec)) refsPrintsCard

/-- THE TIED CARD OF 'recensionlaw14.RefsParses'. -/
def refsParsesCard : Claim7 := { stood := { row := refsParsesRow, standIns := [], harness := (true, "235384e01a8873156eace5652ed6ad3b0ab13ebd829a8300b41c1e21657f0466"), looks := true }, kinds := [], alts := [], laidByText := true, laidKinds := [.data, .pinned], laidTests := true, laidLooks := .later }
def RefsParsesCardSaid : Prop := Claim7.holds Tryd.pinned (.plain (OpenSpec.ofChange refsParsesSpec)) refsParsesCard

/-- THE TIED CARD OF 'recensionlaw14.RefsApplies'. -/
def refsAppliesCard : Claim7 := { stood := { row := refsAppliesRow, standIns := [], harness := (true, "235384e01a8873156eace5652ed6ad3b0ab13ebd829a8300b41c1e21657f0466"), looks := true }, kinds := [], alts := [], laidByText := true, laidKinds := [.data, .pinned], laidTests := true, laidLooks := .later }
def RefsAppliesCardSaid : Prop := Claim7.holds Tryd.pinned (.plain (OpenSpec.ofChange refsAppliesSpec)) refsAppliesCard

/-- THE TIED CARD OF 'recensionlaw14.RefsBack'. -/
def refsBackCard : Claim7 := { stood := { row := refsBackRow, standIns := [], harness := (true, "235384e01a8873156eace5652ed6ad3b0ab13ebd829a8300b41c1e21657f0466"), looks := true }, kinds := [], alts := [], laidByText := true, laidKinds := [.data, .pinned], laidTests := true, laidLooks := .later }
def RefsBackCardSaid : Prop := Claim7.holds Tryd.pinned (.plain (OpenSpec.ofChange refsBackSpec)) refsBackCard

/-- THE TIED CARD OF 'recensionlaw14.RefsReturns'. -/
def refsReturnsCard : Claim7 := { stood := { row := refsReturnsRow, standIns := [], harness := (true, "235384e01a8873156eace5652ed6ad3b0ab13ebd829a8300b41c1e21657f0466"), looks := true }, kinds := [], alts := [], laidByText := true, laidKinds := [.data, .pinned], laidTests := true, laidLooks := .later }
def RefsReturnsCardSaid : Prop := Claim7.holds Tryd.pinned (.plain (OpenSpec.ofChange refsReturnsSpec)) refsReturnsCard

/-- THE TIED CARD OF 'recensionlaw14.RefsPlays'. -/
def refsPlaysCard : Claim7 := { stood := { row := refsPlaysRow, standIns := [], harness := (true, "235384e01a8873156eace5652ed6ad3b0ab13ebd829a8300b41c1e21657f0466"), looks := true }, kinds := [], alts := [], laidByText := true, laidKinds := [.data, .pinned], laidTests := true, laidLooks := .later }
def RefsPlaysCardSaid : Prop := Claim7.holds Tryd.pinned (.plain (OpenSpec.ofChange refsPlaysSpec)) refsPlaysCard

/-- THE TIED CARD OF 'recensionlaw14.RefsLasts'. -/
def refsLastsCard : Claim7 := { stood := { row := refsLastsRow, standIns := [], harness := (true, "235384e01a8873156eace5652ed6ad3b0ab13ebd829a8300b41c1e21657f0466"), looks := true }, kinds := [], alts := [], laidByText := true, laidKinds := [.data, .pinned], laidTests := true, laidLooks := .later }
def RefsLastsCardSaid : Prop := Claim7.holds Tryd.pinned (.plain (OpenSpec.ofChange refsLastsSpec)) refsLastsCard

/-- THE TIED CARD OF 'recensionlaw14.RefsNobody'. -/
def refsNobodyCard : Claim7 := { stood := { row := refsNobodyRow, standIns := [], harness := (true, "235384e01a8873156eace5652ed6ad3b0ab13ebd829a8300b41c1e21657f0466"), looks := true }, kinds := [], alts := [], laidByText := true, laidKinds := [.data, .pinned], laidTests := true, laidLooks := .later }
def RefsNobodyCardSaid : Prop := Claim7.holds Tryd.pinned (.plain (OpenSpec.ofChange refsNobodySpec)) refsNobodyCard

/-- THE TIED CARD OF 'recensionlaw14.RefsAtomic'. -/
def refsAtomicCard : Claim7 := { stood := { row := refsAtomicRow, standIns := [], harness := (true, "235384e01a8873156eace5652ed6ad3b0ab13ebd829a8300b41c1e21657f0466"), looks := true }, kinds := [], alts := [], laidByText := true, laidKinds := [.data, .pinned], laidTests := true, laidLooks := .later }
def RefsAtomicCardSaid : Prop := Claim7.holds Tryd.pinned (.plain (OpenSpec.ofChange refsAtomicSpec)) refsAtomicCard

/-- THE TIED CARD OF 'recensionlaw14.RefsFull'. -/
def refsFullCard : Claim7 := { stood := { row := refsFullRow, standIns := [], harness := (true, "235384e01a8873156eace5652ed6ad3b0ab13ebd829a8300b41c1e21657f0466"), looks := true }, kinds := [], alts := [], laidByText := true, laidKinds := [.data, .pinned], laidTests := true, laidLooks := .later }
def RefsFullCardSaid : Prop := Claim7.holds Tryd.pinned (.plain (OpenSpec.ofChange refsFullSpec)) refsFullCard

/-- THE SECOND FORM's CARD OF 'recensionlaw14.RefsPrints'. -/
def refsPrintsUptoCard : Claim7 := { stood := { row := refsPrintsUptoRow, standIns := [], harness := (true, "235384e01a8873156eace5652ed6ad3b0ab13ebd829a8300b41c1e21657f0466"), looks := true }, kinds := [], alts := [], laidByText := true, laidKinds := [.data, .pinned], laidTests := true, laidLooks := .later }
def RefsPrintsUptoCardSaid : Prop := Claim7.holds Tryd.pinned (.plain (OpenSpec.upto refsPrintsSpec)) refsPrintsUptoCard

/-- THE SECOND FORM's CARD OF 'recensionlaw14.RefsParses'. -/
def refsParsesUptoCard : Claim7 := { stood := { row := refsParsesUptoRow, standIns := [], harness := (true, "235384e01a8873156eace5652ed6ad3b0ab13ebd829a8300b41c1e21657f0466"), looks := true }, kinds := [], alts := [], laidByText := true, laidKinds := [.data, .pinned], laidTests := true, laidLooks := .later }
def RefsParsesUptoCardSaid : Prop := Claim7.holds Tryd.pinned (.plain (OpenSpec.upto refsParsesSpec)) refsParsesUptoCard

/-- THE SECOND FORM's CARD OF 'recensionlaw14.RefsApplies'. -/
def refsAppliesUptoCard : Claim7 := { stood := { row := refsAppliesUptoRow, standIns := [], harness := (true, "235384e01a8873156eace5652ed6ad3b0ab13ebd829a8300b41c1e21657f0466"), looks := true }, kinds := [], alts := [], laidByText := true, laidKinds := [.data, .pinned], laidTests := true, laidLooks := .later }
def RefsAppliesUptoCardSaid : Prop := Claim7.holds Tryd.pinned (.plain (OpenSpec.upto refsAppliesSpec)) refsAppliesUptoCard

/-- THE SECOND FORM's CARD OF 'recensionlaw14.RefsBack'. -/
def refsBackUptoCard : Claim7 := { stood := { row := refsBackUptoRow, standIns := [], harness := (true, "235384e01a8873156eace5652ed6ad3b0ab13ebd829a8300b41c1e21657f0466"), looks := true }, kinds := [], alts := [], laidByText := true, laidKinds := [.data, .pinned], laidTests := true, laidLooks := .later }
def RefsBackUptoCardSaid : Prop := Claim7.holds Tryd.pinned (.plain (OpenSpec.upto refsBackSpec)) refsBackUptoCard

/-- THE SECOND FORM's CARD OF 'recensionlaw14.RefsReturns'. -/
def refsReturnsUptoCard : Claim7 := { stood := { row := refsReturnsUptoRow, standIns := [], harness := (true, "235384e01a8873156eace5652ed6ad3b0ab13ebd829a8300b41c1e21657f0466"), looks := true }, kinds := [], alts := [], laidByText := true, laidKinds := [.data, .pinned], laidTests := true, laidLooks := .later }
def RefsReturnsUptoCardSaid : Prop := Claim7.holds Tryd.pinned (.plain (OpenSpec.upto refsReturnsSpec)) refsReturnsUptoCard

/-- THE SECOND FORM's CARD OF 'recensionlaw14.RefsPlays'. -/
def refsPlaysUptoCard : Claim7 := { stood := { row := refsPlaysUptoRow, standIns := [], harness := (true, "235384e01a8873156eace5652ed6ad3b0ab13ebd829a8300b41c1e21657f0466"), looks := true }, kinds := [], alts := [], laidByText := true, laidKinds := [.data, .pinned], laidTests := true, laidLooks := .later }
def RefsPlaysUptoCardSaid : Prop := Claim7.holds Tryd.pinned (.plain (OpenSpec.upto refsPlaysSpec)) refsPlaysUptoCard

/-- THE SECOND FORM's CARD OF 'recensionlaw14.RefsLasts'. -/
def refsLastsUptoCard : Claim7 := { stood := { row := refsLastsUptoRow, standIns := [], harness := (true, "235384e01a8873156eace5652ed6ad3b0ab13ebd829a8300b41c1e21657f0466"), looks := true }, kinds := [], alts := [], laidByText := true, laidKinds := [.data, .pinned], laidTests := true, laidLooks := .later }
def RefsLastsUptoCardSaid : Prop := Claim7.holds Tryd.pinned (.plain (OpenSpec.upto refsLastsSpec)) refsLastsUptoCard

/-- THE SECOND FORM's CARD OF 'recensionlaw14.RefsNobody'. -/
def refsNobodyUptoCard : Claim7 := { stood := { row := refsNobodyUptoRow, standIns := [], harness := (true, "235384e01a8873156eace5652ed6ad3b0ab13ebd829a8300b41c1e21657f0466"), looks := true }, kinds := [], alts := [], laidByText := true, laidKinds := [.data, .pinned], laidTests := true, laidLooks := .later }
def RefsNobodyUptoCardSaid : Prop := Claim7.holds Tryd.pinned (.plain (OpenSpec.upto refsNobodySpec)) refsNobodyUptoCard

/-- THE SECOND FORM's CARD OF 'recensionlaw14.RefsAtomic'. -/
def refsAtomicUptoCard : Claim7 := { stood := { row := refsAtomicUptoRow, standIns := [], harness := (true, "235384e01a8873156eace5652ed6ad3b0ab13ebd829a8300b41c1e21657f0466"), looks := true }, kinds := [], alts := [], laidByText := true, laidKinds := [.data, .pinned], laidTests := true, laidLooks := .later }
def RefsAtomicUptoCardSaid : Prop := Claim7.holds Tryd.pinned (.plain (OpenSpec.upto refsAtomicSpec)) refsAtomicUptoCard

/-- THE SECOND FORM's CARD OF 'recensionlaw14.RefsFull'. -/
def refsFullUptoCard : Claim7 := { stood := { row := refsFullUptoRow, standIns := [], harness := (true, "235384e01a8873156eace5652ed6ad3b0ab13ebd829a8300b41c1e21657f0466"), looks := true }, kinds := [], alts := [], laidByText := true, laidKinds := [.data, .pinned], laidTests := true, laidLooks := .later }
def RefsFullUptoCardSaid : Prop := Claim7.holds Tryd.pinned (.plain (OpenSpec.upto refsFullSpec)) refsFullUptoCard
end Rows
end Go.Proofs.YtlenmkemjaaaoaaDoor
