/-
  NARROWER THAN 'FOR EVERY INPUT', by the rows' own cells (each row's printed sentence says how): RefsPrints: laid · RefsParses: laid · RefsApplies: laid · RefsBack: laid · RefsReturns: laid · RefsPlays: laid · RefsLasts: laid · RefsNobody: laid · RefsAtomic: laid · RefsFull: laid.
  DERIVED. THE GIVEN ROWS OF THIS SEAT. 10 by the template 'for every input the law returns true; each argument reads behind the call as it read before'; 0 by the template 'total and deterministic' (their statements: YtlenmkemjaaaoaaDoorTotals.lean).
  GIVEN WITH THE SEED: the statements are not yours to turn. If you find one false, say at which input.
  Laid BY PROGRAM, IN A SANDBOX (cutbox-rows.mjs): the forced cells as the released guide's own fill.sh prints them over the translation 2fb7339499a56d3d… (all of the seat's roots in one cut). By AI agents, Wed Nov 11 2026. No macro, syntax, notation, axiom, sorry.
-/
import Derived.Test.YtlenmkemjaaaoaaDoorChecked
import GoSem.PinnedTables
import GoSem.Claim
import GoSem.ClaimJoined
import GoSem.ClaimMapViews
import Derived.JoinedTies
import Derived.KernelRfl
namespace Go.Proofs.YtlenmkemjaaaoaaDoor
/- THE CELL 'sum', in the pinned program and in every row, IS THE sha256 OF THE DUMP (.gsa) THAT YtlenmkemjaaaoaaDoorProg.lean LOADS. Nothing in Lean hashes anything: it is a label: what it is worth is what the hold of that sum in a sandbox is worth. -/
noncomputable def Tryd.pinned : Pinned := { name := "ytlenmkemjaaaoaadoor", sum := "2fb7339499a56d3dacc8839d16c8a0de8e49da8b8a402e9af75813cf2f7f6c09", checked := Tryd.checked }
namespace Rows
def none {H : Type} : Left H := { results := [], args := [] }

/- WHAT THE LISTED PACKAGE-LEVEL VARIABLES READ AS WHEN THE CALL BEGINS. Each datum BY PROGRAM (the guide's laid-datum.mjs) off the statement by which the dump's own 'gosem.cut.vars' lays the variable. In a bare row this is a premise. The card (YtlenmkemjaaaoaaDoorCards.lean) ties it to the program's text. -/
def laid_unicode_utf8_acceptRanges {H : Type} : DataW H := .agg [.agg [.lit (.int .u8 128), .lit (.int .u8 191)], .agg [.lit (.int .u8 160), .lit (.int .u8 191)], .agg [.lit (.int .u8 128), .lit (.int .u8 159)], .agg [.lit (.int .u8 144), .lit (.int .u8 191)], .agg [.lit (.int .u8 128), .lit (.int .u8 143)], .agg [.lit (.int .u8 0), .lit (.int .u8 0)], .agg [.lit (.int .u8 0), .lit (.int .u8 0)], .agg [.lit (.int .u8 0), .lit (.int .u8 0)], .agg [.lit (.int .u8 0), .lit (.int .u8 0)], .agg [.lit (.int .u8 0), .lit (.int .u8 0)], .agg [.lit (.int .u8 0), .lit (.int .u8 0)], .agg [.lit (.int .u8 0), .lit (.int .u8 0)], .agg [.lit (.int .u8 0), .lit (.int .u8 0)], .agg [.lit (.int .u8 0), .lit (.int .u8 0)], .agg [.lit (.int .u8 0), .lit (.int .u8 0)], .agg [.lit (.int .u8 0), .lit (.int .u8 0)]]
/-- One of Go's own tables, pinned by name: the form's constant. -/
def laid_unicode_utf8_first : DataW Unit := Go.Pinned.utf8First

/-- 'recensionlaw14.RefsPrints': WHATEVER THE INPUT: true; the input reads as it did. -/
def refsPrintsSpec : ChangeSpec := { name := "refsPrints", fn := fun _ => fun
  | [d] => { results := [.lit (.bool true)], args := [d] }
  | _ => none }
def refsPrintsRow : OpenClaim := { program := "ytlenmkemjaaaoaadoor", sum := "2fb7339499a56d3dacc8839d16c8a0de8e49da8b8a402e9af75813cf2f7f6c09", func := "recension/recensionlaw14.RefsPrints", spec := "refsPrints", inPlace := ["internal/bytealg.IndexByteString", "internal/abi.NoEscape", "internal/bytealg.CountString", "internal/bytealg.IndexString", "internal/bytealg.abigen_runtime_cmpstring", "slices.overlaps[recension/api.Branch]", "maps.clone"], unfollowed := true, recurses := true, named := ["unicode/utf8.first", "unicode/utf8.acceptRanges", "internal/bytealg.MaxLen"], apart := false, laid := [("unicode/utf8.acceptRanges", laid_unicode_utf8_acceptRanges), ("unicode/utf8.first", laid_unicode_utf8_first)] }
def RefsPrintsSaid : Prop := refsPrintsRow.holds Tryd.pinned (OpenSpec.ofChange refsPrintsSpec)

/-- ITS FALSE NEIGHBOUR: 'it returns false'. Refute it at one input. -/
def refsPrintsWrong : ChangeSpec := { name := "refsPrints", fn := fun _ => fun
  | [d] => { results := [.lit (.bool false)], args := [d] }
  | _ => none }
def RefsPrintsWrongFalsely : Prop := refsPrintsRow.holds Tryd.pinned (OpenSpec.ofChange refsPrintsWrong)

/-- 'recensionlaw14.RefsParses': WHATEVER THE INPUT: true; the input reads as it did. -/
def refsParsesSpec : ChangeSpec := { name := "refsParses", fn := fun _ => fun
  | [d] => { results := [.lit (.bool true)], args := [d] }
  | _ => none }
def refsParsesRow : OpenClaim := { program := "ytlenmkemjaaaoaadoor", sum := "2fb7339499a56d3dacc8839d16c8a0de8e49da8b8a402e9af75813cf2f7f6c09", func := "recension/recensionlaw14.RefsParses", spec := "refsParses", inPlace := ["internal/bytealg.IndexByteString", "internal/bytealg.CountString", "internal/bytealg.IndexString", "internal/abi.NoEscape", "internal/bytealg.abigen_runtime_cmpstring", "slices.overlaps[recension/api.Branch]", "maps.clone"], unfollowed := true, recurses := true, named := ["unicode/utf8.first", "unicode/utf8.acceptRanges", "internal/bytealg.MaxLen"], apart := false, laid := [("unicode/utf8.acceptRanges", laid_unicode_utf8_acceptRanges), ("unicode/utf8.first", laid_unicode_utf8_first)] }
def RefsParsesSaid : Prop := refsParsesRow.holds Tryd.pinned (OpenSpec.ofChange refsParsesSpec)

/-- ITS FALSE NEIGHBOUR: 'it returns false'. Refute it at one input. -/
def refsParsesWrong : ChangeSpec := { name := "refsParses", fn := fun _ => fun
  | [d] => { results := [.lit (.bool false)], args := [d] }
  | _ => none }
def RefsParsesWrongFalsely : Prop := refsParsesRow.holds Tryd.pinned (OpenSpec.ofChange refsParsesWrong)

/-- 'recensionlaw14.RefsApplies': WHATEVER THE INPUT: true; the input reads as it did. -/
def refsAppliesSpec : ChangeSpec := { name := "refsApplies", fn := fun _ => fun
  | [d1, d2] => { results := [.lit (.bool true)], args := [d1, d2] }
  | _ => none }
def refsAppliesRow : OpenClaim := { program := "ytlenmkemjaaaoaadoor", sum := "2fb7339499a56d3dacc8839d16c8a0de8e49da8b8a402e9af75813cf2f7f6c09", func := "recension/recensionlaw14.RefsApplies", spec := "refsApplies", inPlace := ["internal/bytealg.IndexByteString", "internal/bytealg.abigen_runtime_cmpstring", "slices.overlaps[recension/api.Branch]", "internal/bytealg.CountString", "internal/bytealg.IndexString", "internal/abi.NoEscape", "maps.clone"], unfollowed := true, recurses := true, named := ["unicode/utf8.first", "unicode/utf8.acceptRanges", "internal/bytealg.MaxLen"], apart := false, laid := [("unicode/utf8.acceptRanges", laid_unicode_utf8_acceptRanges), ("unicode/utf8.first", laid_unicode_utf8_first)] }
def RefsAppliesSaid : Prop := refsAppliesRow.holds Tryd.pinned (OpenSpec.ofChange refsAppliesSpec)

/-- ITS FALSE NEIGHBOUR: 'it returns false'. Refute it at one input. -/
def refsAppliesWrong : ChangeSpec := { name := "refsApplies", fn := fun _ => fun
  | [d1, d2] => { results := [.lit (.bool false)], args := [d1, d2] }
  | _ => none }
def RefsAppliesWrongFalsely : Prop := refsAppliesRow.holds Tryd.pinned (OpenSpec.ofChange refsAppliesWrong)

/-- 'recensionlaw14.RefsBack': WHATEVER THE INPUT: true; the input reads as it did. -/
def refsBackSpec : ChangeSpec := { name := "refsBack", fn := fun _ => fun
  | [d1, d2] => { results := [.lit (.bool true)], args := [d1, d2] }
  | _ => none }
def refsBackRow : OpenClaim := { program := "ytlenmkemjaaaoaadoor", sum := "2fb7339499a56d3dacc8839d16c8a0de8e49da8b8a402e9af75813cf2f7f6c09", func := "recension/recensionlaw14.RefsBack", spec := "refsBack", inPlace := ["internal/bytealg.IndexByteString", "internal/abi.NoEscape", "internal/bytealg.CountString", "internal/bytealg.IndexString", "internal/bytealg.abigen_runtime_cmpstring", "slices.overlaps[recension/api.Branch]", "maps.clone"], unfollowed := true, recurses := true, named := ["unicode/utf8.first", "unicode/utf8.acceptRanges", "internal/bytealg.MaxLen"], apart := false, laid := [("unicode/utf8.acceptRanges", laid_unicode_utf8_acceptRanges), ("unicode/utf8.first", laid_unicode_utf8_first)] }
def RefsBackSaid : Prop := refsBackRow.holds Tryd.pinned (OpenSpec.ofChange refsBackSpec)

/-- ITS FALSE NEIGHBOUR: 'it returns false'. Refute it at one input. -/
def refsBackWrong : ChangeSpec := { name := "refsBack", fn := fun _ => fun
  | [d1, d2] => { results := [.lit (.bool false)], args := [d1, d2] }
  | _ => none }
def RefsBackWrongFalsely : Prop := refsBackRow.holds Tryd.pinned (OpenSpec.ofChange refsBackWrong)

/-- 'recensionlaw14.RefsReturns': WHATEVER THE INPUT: true; the input reads as it did. -/
def refsReturnsSpec : ChangeSpec := { name := "refsReturns", fn := fun _ => fun
  | [d1, d2] => { results := [.lit (.bool true)], args := [d1, d2] }
  | _ => none }
def refsReturnsRow : OpenClaim := { program := "ytlenmkemjaaaoaadoor", sum := "2fb7339499a56d3dacc8839d16c8a0de8e49da8b8a402e9af75813cf2f7f6c09", func := "recension/recensionlaw14.RefsReturns", spec := "refsReturns", inPlace := ["internal/bytealg.IndexByteString", "internal/bytealg.abigen_runtime_cmpstring", "slices.overlaps[recension/api.Branch]", "internal/bytealg.CountString", "internal/bytealg.IndexString", "internal/abi.NoEscape", "maps.clone"], unfollowed := true, recurses := true, named := ["unicode/utf8.first", "unicode/utf8.acceptRanges", "internal/bytealg.MaxLen"], apart := false, laid := [("unicode/utf8.acceptRanges", laid_unicode_utf8_acceptRanges), ("unicode/utf8.first", laid_unicode_utf8_first)] }
def RefsReturnsSaid : Prop := refsReturnsRow.holds Tryd.pinned (OpenSpec.ofChange refsReturnsSpec)

/-- ITS FALSE NEIGHBOUR: 'it returns false'. Refute it at one input. -/
def refsReturnsWrong : ChangeSpec := { name := "refsReturns", fn := fun _ => fun
  | [d1, d2] => { results := [.lit (.bool false)], args := [d1, d2] }
  | _ => none }
def RefsReturnsWrongFalsely : Prop := refsReturnsRow.holds Tryd.pinned (OpenSpec.ofChange refsReturnsWrong)

/-- 'recensionlaw14.RefsPlays': WHATEVER THE INPUT: true; the input reads as it did. -/
def refsPlaysSpec : ChangeSpec := { name := "refsPlays", fn := fun _ => fun
  | [d1, d2] => { results := [.lit (.bool true)], args := [d1, d2] }
  | _ => none }
def refsPlaysRow : OpenClaim := { program := "ytlenmkemjaaaoaadoor", sum := "2fb7339499a56d3dacc8839d16c8a0de8e49da8b8a402e9af75813cf2f7f6c09", func := "recension/recensionlaw14.RefsPlays", spec := "refsPlays", inPlace := ["internal/bytealg.IndexByteString", "internal/bytealg.CountString", "internal/bytealg.IndexString", "internal/abi.NoEscape", "internal/bytealg.abigen_runtime_cmpstring", "slices.overlaps[recension/api.Branch]", "maps.clone"], unfollowed := true, recurses := true, named := ["unicode/utf8.first", "unicode/utf8.acceptRanges", "internal/bytealg.MaxLen"], apart := false, laid := [("unicode/utf8.acceptRanges", laid_unicode_utf8_acceptRanges), ("unicode/utf8.first", laid_unicode_utf8_first)] }
def RefsPlaysSaid : Prop := refsPlaysRow.holds Tryd.pinned (OpenSpec.ofChange refsPlaysSpec)

/-- ITS FALSE NEIGHBOUR: 'it returns false'. Refute it at one input. -/
def refsPlaysWrong : ChangeSpec := { name := "refsPlays", fn := fun _ => fun
  | [d1, d2] => { results := [.lit (.bool false)], args := [d1, d2] }
  | _ => none }
def RefsPlaysWrongFalsely : Prop := refsPlaysRow.holds Tryd.pinned (OpenSpec.ofChange refsPlaysWrong)

/-- 'recensionlaw14.RefsLasts': WHATEVER THE INPUT: true; the input reads as it did. -/
def refsLastsSpec : ChangeSpec := { name := "refsLasts", fn := fun _ => fun
  | [d1, d2] => { results := [.lit (.bool true)], args := [d1, d2] }
  | _ => none }
def refsLastsRow : OpenClaim := { program := "ytlenmkemjaaaoaadoor", sum := "2fb7339499a56d3dacc8839d16c8a0de8e49da8b8a402e9af75813cf2f7f6c09", func := "recension/recensionlaw14.RefsLasts", spec := "refsLasts", inPlace := ["internal/bytealg.IndexByteString", "internal/bytealg.CountString", "internal/bytealg.IndexString", "internal/abi.NoEscape", "internal/bytealg.abigen_runtime_cmpstring", "slices.overlaps[recension/api.Branch]", "maps.clone"], unfollowed := true, recurses := true, named := ["unicode/utf8.first", "unicode/utf8.acceptRanges", "internal/bytealg.MaxLen"], apart := false, laid := [("unicode/utf8.acceptRanges", laid_unicode_utf8_acceptRanges), ("unicode/utf8.first", laid_unicode_utf8_first)] }
def RefsLastsSaid : Prop := refsLastsRow.holds Tryd.pinned (OpenSpec.ofChange refsLastsSpec)

/-- ITS FALSE NEIGHBOUR: 'it returns false'. Refute it at one input. -/
def refsLastsWrong : ChangeSpec := { name := "refsLasts", fn := fun _ => fun
  | [d1, d2] => { results := [.lit (.bool false)], args := [d1, d2] }
  | _ => none }
def RefsLastsWrongFalsely : Prop := refsLastsRow.holds Tryd.pinned (OpenSpec.ofChange refsLastsWrong)

/-- 'recensionlaw14.RefsNobody': WHATEVER THE INPUT: true; the input reads as it did. -/
def refsNobodySpec : ChangeSpec := { name := "refsNobody", fn := fun _ => fun
  | [d1, d2] => { results := [.lit (.bool true)], args := [d1, d2] }
  | _ => none }
def refsNobodyRow : OpenClaim := { program := "ytlenmkemjaaaoaadoor", sum := "2fb7339499a56d3dacc8839d16c8a0de8e49da8b8a402e9af75813cf2f7f6c09", func := "recension/recensionlaw14.RefsNobody", spec := "refsNobody", inPlace := ["internal/bytealg.abigen_runtime_cmpstring", "internal/bytealg.IndexByteString", "slices.overlaps[recension/api.Branch]", "internal/abi.NoEscape", "maps.clone", "internal/bytealg.CountString", "internal/bytealg.IndexString"], unfollowed := true, recurses := true, named := ["unicode/utf8.first", "unicode/utf8.acceptRanges", "internal/bytealg.MaxLen"], apart := false, laid := [("unicode/utf8.acceptRanges", laid_unicode_utf8_acceptRanges), ("unicode/utf8.first", laid_unicode_utf8_first)] }
def RefsNobodySaid : Prop := refsNobodyRow.holds Tryd.pinned (OpenSpec.ofChange refsNobodySpec)

/-- ITS FALSE NEIGHBOUR: 'it returns false'. Refute it at one input. -/
def refsNobodyWrong : ChangeSpec := { name := "refsNobody", fn := fun _ => fun
  | [d1, d2] => { results := [.lit (.bool false)], args := [d1, d2] }
  | _ => none }
def RefsNobodyWrongFalsely : Prop := refsNobodyRow.holds Tryd.pinned (OpenSpec.ofChange refsNobodyWrong)

/-- 'recensionlaw14.RefsAtomic': WHATEVER THE INPUT: true; the input reads as it did. -/
def refsAtomicSpec : ChangeSpec := { name := "refsAtomic", fn := fun _ => fun
  | [d1, d2, d3] => { results := [.lit (.bool true)], args := [d1, d2, d3] }
  | _ => none }
def refsAtomicRow : OpenClaim := { program := "ytlenmkemjaaaoaadoor", sum := "2fb7339499a56d3dacc8839d16c8a0de8e49da8b8a402e9af75813cf2f7f6c09", func := "recension/recensionlaw14.RefsAtomic", spec := "refsAtomic", inPlace := ["internal/bytealg.IndexByteString", "internal/bytealg.CountString", "internal/bytealg.IndexString", "internal/abi.NoEscape", "internal/bytealg.abigen_runtime_cmpstring", "slices.overlaps[recension/api.Branch]", "maps.clone"], unfollowed := true, recurses := true, named := ["unicode/utf8.first", "unicode/utf8.acceptRanges", "internal/bytealg.MaxLen"], apart := false, laid := [("unicode/utf8.acceptRanges", laid_unicode_utf8_acceptRanges), ("unicode/utf8.first", laid_unicode_utf8_first)] }
def RefsAtomicSaid : Prop := refsAtomicRow.holds Tryd.pinned (OpenSpec.ofChange refsAtomicSpec)

/-- ITS FALSE NEIGHBOUR: 'it returns false'. Refute it at one input. -/
def refsAtomicWrong : ChangeSpec := { name := "refsAtomic", fn := fun _ => fun
  | [d1, d2, d3] => { results := [.lit (.bool false)], args := [d1, d2, d3] }
  | _ => none }
def RefsAtomicWrongFalsely : Prop := refsAtomicRow.holds Tryd.pinned (OpenSpec.ofChange refsAtomicWrong)

/-- 'recensionlaw14.RefsFull': WHATEVER THE INPUT: true; the input reads as it did. -/
def refsFullSpec : ChangeSpec := { name := "refsFull", fn := fun _ => fun
  | [d1, d2] => { results := [.lit (.bool true)], args := [d1, d2] }
  | _ => none }
def refsFullRow : OpenClaim := { program := "ytlenmkemjaaaoaadoor", sum := "2fb7339499a56d3dacc8839d16c8a0de8e49da8b8a402e9af75813cf2f7f6c09", func := "recension/recensionlaw14.RefsFull", spec := "refsFull", inPlace := ["internal/bytealg.IndexByteString", "internal/bytealg.CountString", "internal/bytealg.IndexString", "internal/abi.NoEscape", "internal/bytealg.abigen_runtime_cmpstring", "slices.overlaps[recension/api.Branch]", "maps.clone"], unfollowed := true, recurses := true, named := ["unicode/utf8.first", "unicode/utf8.acceptRanges", "internal/bytealg.MaxLen"], apart := false, laid := [("unicode/utf8.acceptRanges", laid_unicode_utf8_acceptRanges), ("unicode/utf8.first", laid_unicode_utf8_first)] }
def RefsFullSaid : Prop := refsFullRow.holds Tryd.pinned (OpenSpec.ofChange refsFullSpec)

/-- ITS FALSE NEIGHBOUR: 'it returns false'. Refute it at one input. -/
def refsFullWrong : ChangeSpec := { name := "refsFull", fn := fun _ => fun
  | [d1, d2] => { results := [.lit (.bool false)], args := [d1, d2] }
  | _ => none }
def RefsFullWrongFalsely : Prop := refsFullRow.holds Tryd.pinned (OpenSpec.ofChange refsFullWrong)

/- THE SECOND FORM. 'bulk': how many values and letters a reading holds, each counted each time it is reached (what is shared counts as often as it is met; a slice's spare places count too). A statement '..UptoSaid' is the law's where the arguments, and the package variables that the reading takes, are together of bulk at most 1048576: NARROWER than '..Said'. Prove '..Said' where nothing that the law and all that it calls make is longer than what came in: it says more and counts as full. Else prove '..UptoSaid'. A law counts once. -/
mutual
def uptoBulk {H : Type} : DataW H → Nat
  | .lit (.string bytes) => bytes.length + 1
  | .lit _ => 1
  | .nil => 1
  | .ptr d => uptoBulk d + 1
  | .slice elems spare => uptoBulkAll elems + uptoBulkAll spare + 1
  | .agg parts => uptoBulkAll parts + 1
  | .iface _ d => uptoBulk d + 1
  | .map entries => uptoBulkEntries entries + 1
  | .held _ => 1
def uptoBulkAll {H : Type} : List (DataW H) → Nat
  | [] => 0
  | d :: r => uptoBulk d + uptoBulkAll r
def uptoBulkEntries {H : Type} : List (Lit × DataW H) → Nat
  | [] => 0
  | x :: r => uptoBulkEntry x + uptoBulkEntries r
def uptoBulkEntry {H : Type} : Lit × DataW H → Nat
  | (.string bytes, d) => bytes.length + uptoBulk d + 1
  | (_, d) => uptoBulk d + 1
 end
def uptoSmall : (H : Type) → List (DataW H) → Bool := fun _ ds => decide (uptoBulkAll ds ≤ 1048576)
def OpenSpec.upto (s : _root_.Go.ChangeSpec) : _root_.Go.OpenSpec := { _root_.Go.OpenSpec.ofChange s with cond := some uptoSmall }

/-- 'recensionlaw14.RefsPrints', WHERE WHAT IT READS IS OF BULK AT MOST 1048576: true; the input reads as it did. -/
def refsPrintsUptoRow : OpenClaim := { program := "ytlenmkemjaaaoaadoor", sum := "2fb7339499a56d3dacc8839d16c8a0de8e49da8b8a402e9af75813cf2f7f6c09", func := "recension/recensionlaw14.RefsPrints", spec := "refsPrints", inPlace := ["internal/bytealg.IndexByteString", "internal/abi.NoEscape", "internal/bytealg.CountString", "internal/bytealg.IndexString", "internal/bytealg.abigen_runtime_cmpstring", "slices.overlaps[recension/api.Branch]", "maps.clone"], unfollowed := true, recurses := true, named := ["unicode/utf8.first", "unicode/utf8.acceptRanges", "internal/bytealg.MaxLen"], apart := false, laid := [("unicode/utf8.acceptRanges", laid_unicode_utf8_acceptRanges), ("unicode/utf8.first", laid_unicode_utf8_first)], narrowed := true }
def RefsPrintsUptoSaid : Prop := refsPrintsUptoRow.holds Tryd.pinned (OpenSpec.upto refsPrintsSpec)

/-- 'recensionlaw14.RefsParses', WHERE WHAT IT READS IS OF BULK AT MOST 1048576: true; the input reads as it did. -/
def refsParsesUptoRow : OpenClaim := { program := "ytlenmkemjaaaoaadoor", sum := "2fb7339499a56d3dacc8839d16c8a0de8e49da8b8a402e9af75813cf2f7f6c09", func := "recension/recensionlaw14.RefsParses", spec := "refsParses", inPlace := ["internal/bytealg.IndexByteString", "internal/bytealg.CountString", "internal/bytealg.IndexString", "internal/abi.NoEscape", "internal/bytealg.abigen_runtime_cmpstring", "slices.overlaps[recension/api.Branch]", "maps.clone"], unfollowed := true, recurses := true, named := ["unicode/utf8.first", "unicode/utf8.acceptRanges", "internal/bytealg.MaxLen"], apart := false, laid := [("unicode/utf8.acceptRanges", laid_unicode_utf8_acceptRanges), ("unicode/utf8.first", laid_unicode_utf8_first)], narrowed := true }
def RefsParsesUptoSaid : Prop := refsParsesUptoRow.holds Tryd.pinned (OpenSpec.upto refsParsesSpec)

/-- 'recensionlaw14.RefsApplies', WHERE WHAT IT READS IS OF BULK AT MOST 1048576: true; the input reads as it did. -/
def refsAppliesUptoRow : OpenClaim := { program := "ytlenmkemjaaaoaadoor", sum := "2fb7339499a56d3dacc8839d16c8a0de8e49da8b8a402e9af75813cf2f7f6c09", func := "recension/recensionlaw14.RefsApplies", spec := "refsApplies", inPlace := ["internal/bytealg.IndexByteString", "internal/bytealg.abigen_runtime_cmpstring", "slices.overlaps[recension/api.Branch]", "internal/bytealg.CountString", "internal/bytealg.IndexString", "internal/abi.NoEscape", "maps.clone"], unfollowed := true, recurses := true, named := ["unicode/utf8.first", "unicode/utf8.acceptRanges", "internal/bytealg.MaxLen"], apart := false, laid := [("unicode/utf8.acceptRanges", laid_unicode_utf8_acceptRanges), ("unicode/utf8.first", laid_unicode_utf8_first)], narrowed := true }
def RefsAppliesUptoSaid : Prop := refsAppliesUptoRow.holds Tryd.pinned (OpenSpec.upto refsAppliesSpec)

/-- 'recensionlaw14.RefsBack', WHERE WHAT IT READS IS OF BULK AT MOST 1048576: true; the input reads as it did. -/
def refsBackUptoRow : OpenClaim := { program := "ytlenmkemjaaaoaadoor", sum := "2fb7339499a56d3dacc8839d16c8a0de8e49da8b8a402e9af75813cf2f7f6c09", func := "recension/recensionlaw14.RefsBack", spec := "refsBack", inPlace := ["internal/bytealg.IndexByteString", "internal/abi.NoEscape", "internal/bytealg.CountString", "internal/bytealg.IndexString", "internal/bytealg.abigen_runtime_cmpstring", "slices.overlaps[recension/api.Branch]", "maps.clone"], unfollowed := true, recurses := true, named := ["unicode/utf8.first", "unicode/utf8.acceptRanges", "internal/bytealg.MaxLen"], apart := false, laid := [("unicode/utf8.acceptRanges", laid_unicode_utf8_acceptRanges), ("unicode/utf8.first", laid_unicode_utf8_first)], narrowed := true }
def RefsBackUptoSaid : Prop := refsBackUptoRow.holds Tryd.pinned (OpenSpec.upto refsBackSpec)

/-- 'recensionlaw14.RefsReturns', WHERE WHAT IT READS IS OF BULK AT MOST 1048576: true; the input reads as it did. -/
def refsReturnsUptoRow : OpenClaim := { program := "ytlenmkemjaaaoaadoor", sum := "2fb7339499a56d3dacc8839d16c8a0de8e49da8b8a402e9af75813cf2f7f6c09", func := "recension/recensionlaw14.RefsReturns", spec := "refsReturns", inPlace := ["internal/bytealg.IndexByteString", "internal/bytealg.abigen_runtime_cmpstring", "slices.overlaps[recension/api.Branch]", "internal/bytealg.CountString", "internal/bytealg.IndexString", "internal/abi.NoEscape", "maps.clone"], unfollowed := true, recurses := true, named := ["unicode/utf8.first", "unicode/utf8.acceptRanges", "internal/bytealg.MaxLen"], apart := false, laid := [("unicode/utf8.acceptRanges", laid_unicode_utf8_acceptRanges), ("unicode/utf8.first", laid_unicode_utf8_first)], narrowed := true }
def RefsReturnsUptoSaid : Prop := refsReturnsUptoRow.holds Tryd.pinned (OpenSpec.upto refsReturnsSpec)

/-- 'recensionlaw14.RefsPlays', WHERE WHAT IT READS IS OF BULK AT MOST 1048576: true; the input reads as it did. -/
def refsPlaysUptoRow : OpenClaim := { program := "ytlenmkemjaaaoaadoor", sum := "2fb7339499a56d3dacc8839d16c8a0de8e49da8b8a402e9af75813cf2f7f6c09", func := "recension/recensionlaw14.RefsPlays", spec := "refsPlays", inPlace := ["internal/bytealg.IndexByteString", "internal/bytealg.CountString", "internal/bytealg.IndexString", "internal/abi.NoEscape", "internal/bytealg.abigen_runtime_cmpstring", "slices.overlaps[recension/api.Branch]", "maps.clone"], unfollowed := true, recurses := true, named := ["unicode/utf8.first", "unicode/utf8.acceptRanges", "internal/bytealg.MaxLen"], apart := false, laid := [("unicode/utf8.acceptRanges", laid_unicode_utf8_acceptRanges), ("unicode/utf8.first", laid_unicode_utf8_first)], narrowed := true }
def RefsPlaysUptoSaid : Prop := refsPlaysUptoRow.holds Tryd.pinned (OpenSpec.upto refsPlaysSpec)

/-- 'recensionlaw14.RefsLasts', WHERE WHAT IT READS IS OF BULK AT MOST 1048576: true; the input reads as it did. -/
def refsLastsUptoRow : OpenClaim := { program := "ytlenmkemjaaaoaadoor", sum := "2fb7339499a56d3dacc8839d16c8a0de8e49da8b8a402e9af75813cf2f7f6c09", func := "recension/recensionlaw14.RefsLasts", spec := "refsLasts", inPlace := ["internal/bytealg.IndexByteString", "internal/bytealg.CountString", "internal/bytealg.IndexString", "internal/abi.NoEscape", "internal/bytealg.abigen_runtime_cmpstring", "slices.overlaps[recension/api.Branch]", "maps.clone"], unfollowed := true, recurses := true, named := ["unicode/utf8.first", "unicode/utf8.acceptRanges", "internal/bytealg.MaxLen"], apart := false, laid := [("unicode/utf8.acceptRanges", laid_unicode_utf8_acceptRanges), ("unicode/utf8.first", laid_unicode_utf8_first)], narrowed := true }
def RefsLastsUptoSaid : Prop := refsLastsUptoRow.holds Tryd.pinned (OpenSpec.upto refsLastsSpec)

/-- 'recensionlaw14.RefsNobody', WHERE WHAT IT READS IS OF BULK AT MOST 1048576: true; the input reads as it did. -/
def refsNobodyUptoRow : OpenClaim := { program := "ytlenmkemjaaaoaadoor", sum := "2fb7339499a56d3dacc8839d16c8a0de8e49da8b8a402e9af75813cf2f7f6c09", func := "recension/recensionlaw14.RefsNobody", spec := "refsNobody", inPlace := ["internal/bytealg.abigen_runtime_cmpstring", "internal/bytealg.IndexByteString", "slices.overlaps[recension/api.Branch]", "internal/abi.NoEscape", "maps.clone", "internal/bytealg.CountString", "internal/bytealg.IndexString"], unfollowed := true, recurses := true, named := ["unicode/utf8.first", "unicode/utf8.acceptRanges", "internal/bytealg.MaxLen"], apart := false, laid := [("unicode/utf8.acceptRanges", laid_unicode_utf8_acceptRanges), ("unicode/utf8.first", laid_unicode_utf8_first)], narrowed := true }
def RefsNobodyUptoSaid : Prop := refsNobodyUptoRow.holds Tryd.pinned (OpenSpec.upto refsNobodySpec)

/-- 'recensionlaw14.RefsAtomic', WHERE WHAT IT READS IS OF BULK AT MOST 1048576: true; the input reads as it did. -/
def refsAtomicUptoRow : OpenClaim := { program := "ytlenmkemjaaaoaadoor", sum := "2fb7339499a56d3dacc8839d16c8a0de8e49da8b8a402e9af75813cf2f7f6c09", func := "recension/recensionlaw14.RefsAtomic", spec := "refsAtomic", inPlace := ["internal/bytealg.IndexByteString", "internal/bytealg.CountString", "internal/bytealg.IndexString", "internal/abi.NoEscape", "internal/bytealg.abigen_runtime_cmpstring", "slices.overlaps[recension/api.Branch]", "maps.clone"], unfollowed := true, recurses := true, named := ["unicode/utf8.first", "unicode/utf8.acceptRanges", "internal/bytealg.MaxLen"], apart := false, laid := [("unicode/utf8.acceptRanges", laid_unicode_utf8_acceptRanges), ("unicode/utf8.first", laid_unicode_utf8_first)], narrowed := true }
def RefsAtomicUptoSaid : Prop := refsAtomicUptoRow.holds Tryd.pinned (OpenSpec.upto refsAtomicSpec)

/-- 'recensionlaw14.RefsFull', WHERE WHAT IT READS IS OF BULK AT MOST 1048576: true; the input reads as it did. -/
def refsFullUptoRow : OpenClaim := { program := "ytlenmkemjaaaoaadoor", sum := "2fb7339499a56d3dacc8839d16c8a0de8e49da8b8a402e9af75813cf2f7f6c09", func := "recension/recensionlaw14.RefsFull", spec := "refsFull", inPlace := ["internal/bytealg.IndexByteString", "internal/bytealg.CountString", "internal/bytealg.IndexString", "internal/abi.NoEscape", "internal/bytealg.abigen_runtime_cmpstring", "slices.overlaps[recension/api.Branch]", "maps.clone"], unfollowed := true, recurses := true, named := ["unicode/utf8.first", "unicode/utf8.acceptRanges", "internal/bytealg.MaxLen"], apart := false, laid := [("unicode/utf8.acceptRanges", laid_unicode_utf8_acceptRanges), ("unicode/utf8.first", laid_unicode_utf8_first)], narrowed := true }
def RefsFullUptoSaid : Prop := refsFullUptoRow.holds Tryd.pinned (OpenSpec.upto refsFullSpec)

end Rows
end Go.Proofs.YtlenmkemjaaaoaaDoor
