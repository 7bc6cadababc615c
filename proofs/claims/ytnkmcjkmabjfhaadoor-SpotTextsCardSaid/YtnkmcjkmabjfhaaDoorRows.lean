/-
  NARROWER THAN 'FOR EVERY INPUT', by the rows' own cells (each row's printed sentence says how): SpotOf: laid · SpotIs: laid · SpotJoins: laid · SpotAdds: laid · SpotGroups: laid · SpotAts: laid · SpotOrders: laid · SpotFinds: laid · SpotRises: laid · SpotBack: laid · SpotTexts: laid · SpotReads: laid.
  DERIVED. THE GIVEN ROWS OF THIS SEAT. 12 by the template 'for every input the law returns true; each argument reads behind the call as it read before'; 0 by the template 'total and deterministic' (their statements: YtnkmcjkmabjfhaaDoorTotals.lean).
  GIVEN WITH THE SEED: the statements are not yours to turn. If you find one false, say at which input.
  Laid BY PROGRAM, IN A SANDBOX (cutbox-rows.mjs): the forced cells as the released guide's own fill.sh prints them over the translation efdc592c6f7297df… (all of the seat's roots in one cut). By AI agents, Wed Nov 11 2026. No macro, syntax, notation, axiom, sorry.
-/
import Derived.Test.YtnkmcjkmabjfhaaDoorChecked
import GoSem.Claim
import GoSem.ClaimJoined
import GoSem.ClaimMapViews
import Derived.JoinedTies
import Derived.KernelRfl
namespace Go.Proofs.YtnkmcjkmabjfhaaDoor
/- THE CELL 'sum', in the pinned program and in every row, IS THE sha256 OF THE DUMP (.gsa) THAT YtnkmcjkmabjfhaaDoorProg.lean LOADS. Nothing in Lean hashes anything: it is a label: what it is worth is what the hold of that sum in a sandbox is worth. -/
noncomputable def Tryd.pinned : Pinned := { name := "ytnkmcjkmabjfhaadoor", sum := "efdc592c6f7297df8f0f413f8926038ea890e2283fb2c4b6376f43a77ee1484b", checked := Tryd.checked }
namespace Rows
def none {H : Type} : Left H := { results := [], args := [] }

/- WHAT THE LISTED PACKAGE-LEVEL VARIABLES READ AS WHEN THE CALL BEGINS. Each datum BY PROGRAM (the guide's laid-datum.mjs) off the statement by which the dump's own 'gosem.cut.vars' lays the variable. In a bare row this is a premise. The card (YtnkmcjkmabjfhaaDoorCards.lean) ties it to the program's text. -/
def laid_math_bits_deBruijn32tab {H : Type} : DataW H := .agg [.lit (.int .u8 0), .lit (.int .u8 1), .lit (.int .u8 28), .lit (.int .u8 2), .lit (.int .u8 29), .lit (.int .u8 14), .lit (.int .u8 24), .lit (.int .u8 3), .lit (.int .u8 30), .lit (.int .u8 22), .lit (.int .u8 20), .lit (.int .u8 15), .lit (.int .u8 25), .lit (.int .u8 17), .lit (.int .u8 4), .lit (.int .u8 8), .lit (.int .u8 31), .lit (.int .u8 27), .lit (.int .u8 13), .lit (.int .u8 23), .lit (.int .u8 21), .lit (.int .u8 19), .lit (.int .u8 16), .lit (.int .u8 7), .lit (.int .u8 26), .lit (.int .u8 12), .lit (.int .u8 18), .lit (.int .u8 6), .lit (.int .u8 11), .lit (.int .u8 5), .lit (.int .u8 10), .lit (.int .u8 9)]
def laid_math_bits_deBruijn64tab {H : Type} : DataW H := .agg [.lit (.int .u8 0), .lit (.int .u8 1), .lit (.int .u8 56), .lit (.int .u8 2), .lit (.int .u8 57), .lit (.int .u8 49), .lit (.int .u8 28), .lit (.int .u8 3), .lit (.int .u8 61), .lit (.int .u8 58), .lit (.int .u8 42), .lit (.int .u8 50), .lit (.int .u8 38), .lit (.int .u8 29), .lit (.int .u8 17), .lit (.int .u8 4), .lit (.int .u8 62), .lit (.int .u8 47), .lit (.int .u8 59), .lit (.int .u8 36), .lit (.int .u8 45), .lit (.int .u8 43), .lit (.int .u8 51), .lit (.int .u8 22), .lit (.int .u8 53), .lit (.int .u8 39), .lit (.int .u8 33), .lit (.int .u8 30), .lit (.int .u8 24), .lit (.int .u8 18), .lit (.int .u8 12), .lit (.int .u8 5), .lit (.int .u8 63), .lit (.int .u8 55), .lit (.int .u8 48), .lit (.int .u8 27), .lit (.int .u8 60), .lit (.int .u8 41), .lit (.int .u8 37), .lit (.int .u8 16), .lit (.int .u8 46), .lit (.int .u8 35), .lit (.int .u8 44), .lit (.int .u8 21), .lit (.int .u8 52), .lit (.int .u8 32), .lit (.int .u8 23), .lit (.int .u8 11), .lit (.int .u8 54), .lit (.int .u8 26), .lit (.int .u8 40), .lit (.int .u8 15), .lit (.int .u8 34), .lit (.int .u8 20), .lit (.int .u8 31), .lit (.int .u8 10), .lit (.int .u8 25), .lit (.int .u8 14), .lit (.int .u8 19), .lit (.int .u8 9), .lit (.int .u8 13), .lit (.int .u8 8), .lit (.int .u8 7), .lit (.int .u8 6)]
def laid_internal_strconv_uint64pow10 {H : Type} : DataW H := .agg [.lit (.int .u64 1), .lit (.int .u64 10), .lit (.int .u64 100), .lit (.int .u64 1000), .lit (.int .u64 10000), .lit (.int .u64 100000), .lit (.int .u64 1000000), .lit (.int .u64 10000000), .lit (.int .u64 100000000), .lit (.int .u64 1000000000), .lit (.int .u64 10000000000), .lit (.int .u64 100000000000), .lit (.int .u64 1000000000000), .lit (.int .u64 10000000000000), .lit (.int .u64 100000000000000), .lit (.int .u64 1000000000000000), .lit (.int .u64 10000000000000000), .lit (.int .u64 100000000000000000), .lit (.int .u64 1000000000000000000), .lit (.int .u64 10000000000000000000)]
def laid_strconv_ErrRange {H : Type} : DataW H := .iface "*errors.errorString" (.ptr (.agg [.lit (.string [118, 97, 108, 117, 101, 32, 111, 117, 116, 32, 111, 102, 32, 114, 97, 110, 103, 101])]))
def laid_strconv_ErrSyntax {H : Type} : DataW H := .iface "*errors.errorString" (.ptr (.agg [.lit (.string [105, 110, 118, 97, 108, 105, 100, 32, 115, 121, 110, 116, 97, 120])]))

/-- 'recensionlaw01.SpotOf': WHATEVER THE INPUT: true; the input reads as it did. -/
def spotOfSpec : ChangeSpec := { name := "spotOf", fn := fun _ => fun
  | [d] => { results := [.lit (.bool true)], args := [d] }
  | _ => none }
def spotOfRow : OpenClaim := { program := "ytnkmcjkmabjfhaadoor", sum := "efdc592c6f7297df8f0f413f8926038ea890e2283fb2c4b6376f43a77ee1484b", func := "recension/recensionlaw01.SpotOf", spec := "spotOf", inPlace := ["math.archFloor", "math.Float64bits", "math.Float64frombits", "math.archTrunc"], named := ["internal/strconv.uint64pow10", "math/bits.deBruijn32tab", "math/bits.deBruijn64tab"], apart := false, laid := [("math/bits.deBruijn32tab", laid_math_bits_deBruijn32tab), ("math/bits.deBruijn64tab", laid_math_bits_deBruijn64tab), ("internal/strconv.uint64pow10", laid_internal_strconv_uint64pow10)] }
def SpotOfSaid : Prop := spotOfRow.holds Tryd.pinned (OpenSpec.ofChange spotOfSpec)

/-- ITS FALSE NEIGHBOUR: 'it returns false'. Refute it at one input. -/
def spotOfWrong : ChangeSpec := { name := "spotOf", fn := fun _ => fun
  | [d] => { results := [.lit (.bool false)], args := [d] }
  | _ => none }
def SpotOfWrongFalsely : Prop := spotOfRow.holds Tryd.pinned (OpenSpec.ofChange spotOfWrong)

/-- 'recensionlaw01.SpotIs': WHATEVER THE INPUT: true; the input reads as it did. -/
def spotIsSpec : ChangeSpec := { name := "spotIs", fn := fun _ => fun
  | [d1, d2] => { results := [.lit (.bool true)], args := [d1, d2] }
  | _ => none }
def spotIsRow : OpenClaim := { program := "ytnkmcjkmabjfhaadoor", sum := "efdc592c6f7297df8f0f413f8926038ea890e2283fb2c4b6376f43a77ee1484b", func := "recension/recensionlaw01.SpotIs", spec := "spotIs", inPlace := ["math.archFloor", "math.Float64bits", "math.Float64frombits", "math.archTrunc"], named := ["internal/strconv.uint64pow10", "math/bits.deBruijn32tab", "math/bits.deBruijn64tab"], apart := false, laid := [("math/bits.deBruijn32tab", laid_math_bits_deBruijn32tab), ("math/bits.deBruijn64tab", laid_math_bits_deBruijn64tab), ("internal/strconv.uint64pow10", laid_internal_strconv_uint64pow10)] }
def SpotIsSaid : Prop := spotIsRow.holds Tryd.pinned (OpenSpec.ofChange spotIsSpec)

/-- ITS FALSE NEIGHBOUR: 'it returns false'. Refute it at one input. -/
def spotIsWrong : ChangeSpec := { name := "spotIs", fn := fun _ => fun
  | [d1, d2] => { results := [.lit (.bool false)], args := [d1, d2] }
  | _ => none }
def SpotIsWrongFalsely : Prop := spotIsRow.holds Tryd.pinned (OpenSpec.ofChange spotIsWrong)

/-- 'recensionlaw01.SpotJoins': WHATEVER THE INPUT: true; the input reads as it did. -/
def spotJoinsSpec : ChangeSpec := { name := "spotJoins", fn := fun _ => fun
  | [d1, d2] => { results := [.lit (.bool true)], args := [d1, d2] }
  | _ => none }
def spotJoinsRow : OpenClaim := { program := "ytnkmcjkmabjfhaadoor", sum := "efdc592c6f7297df8f0f413f8926038ea890e2283fb2c4b6376f43a77ee1484b", func := "recension/recensionlaw01.SpotJoins", spec := "spotJoins", inPlace := ["math.archFloor", "math.Float64bits", "math.Float64frombits", "math.archTrunc"], named := ["internal/strconv.uint64pow10", "math/bits.deBruijn32tab", "math/bits.deBruijn64tab"], apart := false, laid := [("math/bits.deBruijn32tab", laid_math_bits_deBruijn32tab), ("math/bits.deBruijn64tab", laid_math_bits_deBruijn64tab), ("internal/strconv.uint64pow10", laid_internal_strconv_uint64pow10)] }
def SpotJoinsSaid : Prop := spotJoinsRow.holds Tryd.pinned (OpenSpec.ofChange spotJoinsSpec)

/-- ITS FALSE NEIGHBOUR: 'it returns false'. Refute it at one input. -/
def spotJoinsWrong : ChangeSpec := { name := "spotJoins", fn := fun _ => fun
  | [d1, d2] => { results := [.lit (.bool false)], args := [d1, d2] }
  | _ => none }
def SpotJoinsWrongFalsely : Prop := spotJoinsRow.holds Tryd.pinned (OpenSpec.ofChange spotJoinsWrong)

/-- 'recensionlaw01.SpotAdds': WHATEVER THE INPUT: true; the input reads as it did. -/
def spotAddsSpec : ChangeSpec := { name := "spotAdds", fn := fun _ => fun
  | [d1, d2] => { results := [.lit (.bool true)], args := [d1, d2] }
  | _ => none }
def spotAddsRow : OpenClaim := { program := "ytnkmcjkmabjfhaadoor", sum := "efdc592c6f7297df8f0f413f8926038ea890e2283fb2c4b6376f43a77ee1484b", func := "recension/recensionlaw01.SpotAdds", spec := "spotAdds", inPlace := ["math.archFloor", "math.Float64bits", "math.Float64frombits", "math.archTrunc"], named := ["internal/strconv.uint64pow10", "math/bits.deBruijn32tab", "math/bits.deBruijn64tab"], apart := false, laid := [("math/bits.deBruijn32tab", laid_math_bits_deBruijn32tab), ("math/bits.deBruijn64tab", laid_math_bits_deBruijn64tab), ("internal/strconv.uint64pow10", laid_internal_strconv_uint64pow10)] }
def SpotAddsSaid : Prop := spotAddsRow.holds Tryd.pinned (OpenSpec.ofChange spotAddsSpec)

/-- ITS FALSE NEIGHBOUR: 'it returns false'. Refute it at one input. -/
def spotAddsWrong : ChangeSpec := { name := "spotAdds", fn := fun _ => fun
  | [d1, d2] => { results := [.lit (.bool false)], args := [d1, d2] }
  | _ => none }
def SpotAddsWrongFalsely : Prop := spotAddsRow.holds Tryd.pinned (OpenSpec.ofChange spotAddsWrong)

/-- 'recensionlaw01.SpotGroups': WHATEVER THE INPUT: true; the input reads as it did. -/
def spotGroupsSpec : ChangeSpec := { name := "spotGroups", fn := fun _ => fun
  | [d1, d2, d3] => { results := [.lit (.bool true)], args := [d1, d2, d3] }
  | _ => none }
def spotGroupsRow : OpenClaim := { program := "ytnkmcjkmabjfhaadoor", sum := "efdc592c6f7297df8f0f413f8926038ea890e2283fb2c4b6376f43a77ee1484b", func := "recension/recensionlaw01.SpotGroups", spec := "spotGroups", inPlace := ["math.archFloor", "math.Float64bits", "math.Float64frombits", "math.archTrunc"], named := ["internal/strconv.uint64pow10", "math/bits.deBruijn32tab", "math/bits.deBruijn64tab"], apart := false, laid := [("math/bits.deBruijn32tab", laid_math_bits_deBruijn32tab), ("math/bits.deBruijn64tab", laid_math_bits_deBruijn64tab), ("internal/strconv.uint64pow10", laid_internal_strconv_uint64pow10)] }
def SpotGroupsSaid : Prop := spotGroupsRow.holds Tryd.pinned (OpenSpec.ofChange spotGroupsSpec)

/-- ITS FALSE NEIGHBOUR: 'it returns false'. Refute it at one input. -/
def spotGroupsWrong : ChangeSpec := { name := "spotGroups", fn := fun _ => fun
  | [d1, d2, d3] => { results := [.lit (.bool false)], args := [d1, d2, d3] }
  | _ => none }
def SpotGroupsWrongFalsely : Prop := spotGroupsRow.holds Tryd.pinned (OpenSpec.ofChange spotGroupsWrong)

/-- 'recensionlaw01.SpotAts': WHATEVER THE INPUT: true; the input reads as it did. -/
def spotAtsSpec : ChangeSpec := { name := "spotAts", fn := fun _ => fun
  | [d1, d2] => { results := [.lit (.bool true)], args := [d1, d2] }
  | _ => none }
def spotAtsRow : OpenClaim := { program := "ytnkmcjkmabjfhaadoor", sum := "efdc592c6f7297df8f0f413f8926038ea890e2283fb2c4b6376f43a77ee1484b", func := "recension/recensionlaw01.SpotAts", spec := "spotAts", inPlace := ["math.archFloor", "math.Float64bits", "math.Float64frombits", "math.archTrunc"], named := ["internal/strconv.uint64pow10", "math/bits.deBruijn32tab", "math/bits.deBruijn64tab"], apart := false, laid := [("math/bits.deBruijn32tab", laid_math_bits_deBruijn32tab), ("math/bits.deBruijn64tab", laid_math_bits_deBruijn64tab), ("internal/strconv.uint64pow10", laid_internal_strconv_uint64pow10)] }
def SpotAtsSaid : Prop := spotAtsRow.holds Tryd.pinned (OpenSpec.ofChange spotAtsSpec)

/-- ITS FALSE NEIGHBOUR: 'it returns false'. Refute it at one input. -/
def spotAtsWrong : ChangeSpec := { name := "spotAts", fn := fun _ => fun
  | [d1, d2] => { results := [.lit (.bool false)], args := [d1, d2] }
  | _ => none }
def SpotAtsWrongFalsely : Prop := spotAtsRow.holds Tryd.pinned (OpenSpec.ofChange spotAtsWrong)

/-- 'recensionlaw01.SpotOrders': WHATEVER THE INPUT: true; the input reads as it did. -/
def spotOrdersSpec : ChangeSpec := { name := "spotOrders", fn := fun _ => fun
  | [d1, d2] => { results := [.lit (.bool true)], args := [d1, d2] }
  | _ => none }
def spotOrdersRow : OpenClaim := { program := "ytnkmcjkmabjfhaadoor", sum := "efdc592c6f7297df8f0f413f8926038ea890e2283fb2c4b6376f43a77ee1484b", func := "recension/recensionlaw01.SpotOrders", spec := "spotOrders", inPlace := ["math.archFloor", "math.Float64bits", "math.Float64frombits", "math.archTrunc"], named := ["internal/strconv.uint64pow10", "math/bits.deBruijn32tab", "math/bits.deBruijn64tab"], apart := false, laid := [("math/bits.deBruijn32tab", laid_math_bits_deBruijn32tab), ("math/bits.deBruijn64tab", laid_math_bits_deBruijn64tab), ("internal/strconv.uint64pow10", laid_internal_strconv_uint64pow10)] }
def SpotOrdersSaid : Prop := spotOrdersRow.holds Tryd.pinned (OpenSpec.ofChange spotOrdersSpec)

/-- ITS FALSE NEIGHBOUR: 'it returns false'. Refute it at one input. -/
def spotOrdersWrong : ChangeSpec := { name := "spotOrders", fn := fun _ => fun
  | [d1, d2] => { results := [.lit (.bool false)], args := [d1, d2] }
  | _ => none }
def SpotOrdersWrongFalsely : Prop := spotOrdersRow.holds Tryd.pinned (OpenSpec.ofChange spotOrdersWrong)

/-- 'recensionlaw01.SpotFinds': WHATEVER THE INPUT: true; the input reads as it did. -/
def spotFindsSpec : ChangeSpec := { name := "spotFinds", fn := fun _ => fun
  | [d1, d2, d3] => { results := [.lit (.bool true)], args := [d1, d2, d3] }
  | _ => none }
def spotFindsRow : OpenClaim := { program := "ytnkmcjkmabjfhaadoor", sum := "efdc592c6f7297df8f0f413f8926038ea890e2283fb2c4b6376f43a77ee1484b", func := "recension/recensionlaw01.SpotFinds", spec := "spotFinds", inPlace := ["math.archFloor", "math.Float64bits", "math.Float64frombits", "math.archTrunc"], named := ["internal/strconv.uint64pow10", "math/bits.deBruijn32tab", "math/bits.deBruijn64tab"], apart := false, laid := [("math/bits.deBruijn32tab", laid_math_bits_deBruijn32tab), ("math/bits.deBruijn64tab", laid_math_bits_deBruijn64tab), ("internal/strconv.uint64pow10", laid_internal_strconv_uint64pow10)] }
def SpotFindsSaid : Prop := spotFindsRow.holds Tryd.pinned (OpenSpec.ofChange spotFindsSpec)

/-- ITS FALSE NEIGHBOUR: 'it returns false'. Refute it at one input. -/
def spotFindsWrong : ChangeSpec := { name := "spotFinds", fn := fun _ => fun
  | [d1, d2, d3] => { results := [.lit (.bool false)], args := [d1, d2, d3] }
  | _ => none }
def SpotFindsWrongFalsely : Prop := spotFindsRow.holds Tryd.pinned (OpenSpec.ofChange spotFindsWrong)

/-- 'recensionlaw01.SpotRises': WHATEVER THE INPUT: true; the input reads as it did. -/
def spotRisesSpec : ChangeSpec := { name := "spotRises", fn := fun _ => fun
  | [d1, d2, d3] => { results := [.lit (.bool true)], args := [d1, d2, d3] }
  | _ => none }
def spotRisesRow : OpenClaim := { program := "ytnkmcjkmabjfhaadoor", sum := "efdc592c6f7297df8f0f413f8926038ea890e2283fb2c4b6376f43a77ee1484b", func := "recension/recensionlaw01.SpotRises", spec := "spotRises", inPlace := ["math.archFloor", "math.Float64bits", "math.Float64frombits", "math.archTrunc"], named := ["internal/strconv.uint64pow10", "math/bits.deBruijn32tab", "math/bits.deBruijn64tab"], apart := false, laid := [("math/bits.deBruijn32tab", laid_math_bits_deBruijn32tab), ("math/bits.deBruijn64tab", laid_math_bits_deBruijn64tab), ("internal/strconv.uint64pow10", laid_internal_strconv_uint64pow10)] }
def SpotRisesSaid : Prop := spotRisesRow.holds Tryd.pinned (OpenSpec.ofChange spotRisesSpec)

/-- ITS FALSE NEIGHBOUR: 'it returns false'. Refute it at one input. -/
def spotRisesWrong : ChangeSpec := { name := "spotRises", fn := fun _ => fun
  | [d1, d2, d3] => { results := [.lit (.bool false)], args := [d1, d2, d3] }
  | _ => none }
def SpotRisesWrongFalsely : Prop := spotRisesRow.holds Tryd.pinned (OpenSpec.ofChange spotRisesWrong)

/-- 'recensionlaw01.SpotBack': WHATEVER THE INPUT: true; the input reads as it did. -/
def spotBackSpec : ChangeSpec := { name := "spotBack", fn := fun _ => fun
  | [d1, d2] => { results := [.lit (.bool true)], args := [d1, d2] }
  | _ => none }
def spotBackRow : OpenClaim := { program := "ytnkmcjkmabjfhaadoor", sum := "efdc592c6f7297df8f0f413f8926038ea890e2283fb2c4b6376f43a77ee1484b", func := "recension/recensionlaw01.SpotBack", spec := "spotBack", inPlace := ["math.archFloor", "math.Float64bits", "math.Float64frombits", "math.archTrunc"], named := ["internal/strconv.uint64pow10", "math/bits.deBruijn32tab", "math/bits.deBruijn64tab"], apart := false, laid := [("math/bits.deBruijn32tab", laid_math_bits_deBruijn32tab), ("math/bits.deBruijn64tab", laid_math_bits_deBruijn64tab), ("internal/strconv.uint64pow10", laid_internal_strconv_uint64pow10)] }
def SpotBackSaid : Prop := spotBackRow.holds Tryd.pinned (OpenSpec.ofChange spotBackSpec)

/-- ITS FALSE NEIGHBOUR: 'it returns false'. Refute it at one input. -/
def spotBackWrong : ChangeSpec := { name := "spotBack", fn := fun _ => fun
  | [d1, d2] => { results := [.lit (.bool false)], args := [d1, d2] }
  | _ => none }
def SpotBackWrongFalsely : Prop := spotBackRow.holds Tryd.pinned (OpenSpec.ofChange spotBackWrong)

/-- 'recensionlaw01.SpotTexts': WHATEVER THE INPUT: true; the input reads as it did. -/
def spotTextsSpec : ChangeSpec := { name := "spotTexts", fn := fun _ => fun
  | [d1, d2, d3] => { results := [.lit (.bool true)], args := [d1, d2, d3] }
  | _ => none }
def spotTextsRow : OpenClaim := { program := "ytnkmcjkmabjfhaadoor", sum := "efdc592c6f7297df8f0f413f8926038ea890e2283fb2c4b6376f43a77ee1484b", func := "recension/recensionlaw01.SpotTexts", spec := "spotTexts", inPlace := ["internal/bytealg.IndexByteString", "internal/bytealg.IndexString", "math.archFloor", "math.Float64bits", "math.Float64frombits", "math.archTrunc"], recurses := true, named := ["internal/bytealg.MaxLen", "strconv.ErrSyntax", "strconv.ErrRange", "internal/strconv.uint64pow10", "math/bits.deBruijn32tab", "math/bits.deBruijn64tab"], apart := false, laid := [("math/bits.deBruijn32tab", laid_math_bits_deBruijn32tab), ("math/bits.deBruijn64tab", laid_math_bits_deBruijn64tab), ("internal/strconv.uint64pow10", laid_internal_strconv_uint64pow10), ("strconv.ErrRange", laid_strconv_ErrRange), ("strconv.ErrSyntax", laid_strconv_ErrSyntax)] }
def SpotTextsSaid : Prop := spotTextsRow.holds Tryd.pinned (OpenSpec.ofChange spotTextsSpec)

/-- ITS FALSE NEIGHBOUR: 'it returns false'. Refute it at one input. -/
def spotTextsWrong : ChangeSpec := { name := "spotTexts", fn := fun _ => fun
  | [d1, d2, d3] => { results := [.lit (.bool false)], args := [d1, d2, d3] }
  | _ => none }
def SpotTextsWrongFalsely : Prop := spotTextsRow.holds Tryd.pinned (OpenSpec.ofChange spotTextsWrong)

/-- 'recensionlaw01.SpotReads': WHATEVER THE INPUT: true; the input reads as it did. -/
def spotReadsSpec : ChangeSpec := { name := "spotReads", fn := fun _ => fun
  | [d1, d2] => { results := [.lit (.bool true)], args := [d1, d2] }
  | _ => none }
def spotReadsRow : OpenClaim := { program := "ytnkmcjkmabjfhaadoor", sum := "efdc592c6f7297df8f0f413f8926038ea890e2283fb2c4b6376f43a77ee1484b", func := "recension/recensionlaw01.SpotReads", spec := "spotReads", inPlace := ["math.archFloor", "math.Float64bits", "math.Float64frombits", "math.archTrunc", "internal/bytealg.IndexByteString", "internal/bytealg.IndexString"], named := ["internal/strconv.uint64pow10", "math/bits.deBruijn32tab", "math/bits.deBruijn64tab", "internal/bytealg.MaxLen", "strconv.ErrSyntax", "strconv.ErrRange"], apart := false, laid := [("math/bits.deBruijn32tab", laid_math_bits_deBruijn32tab), ("math/bits.deBruijn64tab", laid_math_bits_deBruijn64tab), ("internal/strconv.uint64pow10", laid_internal_strconv_uint64pow10), ("strconv.ErrRange", laid_strconv_ErrRange), ("strconv.ErrSyntax", laid_strconv_ErrSyntax)] }
def SpotReadsSaid : Prop := spotReadsRow.holds Tryd.pinned (OpenSpec.ofChange spotReadsSpec)

/-- ITS FALSE NEIGHBOUR: 'it returns false'. Refute it at one input. -/
def spotReadsWrong : ChangeSpec := { name := "spotReads", fn := fun _ => fun
  | [d1, d2] => { results := [.lit (.bool false)], args := [d1, d2] }
  | _ => none }
def SpotReadsWrongFalsely : Prop := spotReadsRow.holds Tryd.pinned (OpenSpec.ofChange spotReadsWrong)

/- THE SECOND FORM. 'bulk': how many values and letters a reading holds, each counted each time it is reached (what is shared counts as often as it is met; a slice's spare places count too). A statement '..UptoSaid' is the law's where the arguments, and the package variables that the reading takes, are together of bulk at most 1048576: NARROWER than '..Said'. Prove '..Said' where nothing that the law and all that it calls make is longer than what came in: it says more and counts as full. Else prove '..UptoSaid'. A law counts once. -/
mutual
def uptoBulk {H : Type} : DataW H → Nat
  | .lit (.string bytes) => bytes.length + 1
  | .lit _ => 1
  | .nil => 1
  | .ptr d => uptoBulk d + 1
  | .slice elems spare => uptoBulkAll elems + uptoBulkAll spare + 1
  | .agg parts => uptoBulkAll parts + 1
  | .iface _ d => uptoBulk d + 1
  | .map entries => uptoBulkEntries entries + 1
  | .held _ => 1
def uptoBulkAll {H : Type} : List (DataW H) → Nat
  | [] => 0
  | d :: r => uptoBulk d + uptoBulkAll r
def uptoBulkEntries {H : Type} : List (Lit × DataW H) → Nat
  | [] => 0
  | x :: r => uptoBulkEntry x + uptoBulkEntries r
def uptoBulkEntry {H : Type} : Lit × DataW H → Nat
  | (.string bytes, d) => bytes.length + uptoBulk d + 1
  | (_, d) => uptoBulk d + 1
 end
def uptoSmall : (H : Type) → List (DataW H) → Bool := fun _ ds => decide (uptoBulkAll ds ≤ 1048576)
def OpenSpec.upto (s : _root_.Go.ChangeSpec) : _root_.Go.OpenSpec := { _root_.Go.OpenSpec.ofChange s with cond := some uptoSmall }

/-- 'recensionlaw01.SpotOf', WHERE WHAT IT READS IS OF BULK AT MOST 1048576: true; the input reads as it did. -/
def spotOfUptoRow : OpenClaim := { program := "ytnkmcjkmabjfhaadoor", sum := "efdc592c6f7297df8f0f413f8926038ea890e2283fb2c4b6376f43a77ee1484b", func := "recension/recensionlaw01.SpotOf", spec := "spotOf", inPlace := ["math.archFloor", "math.Float64bits", "math.Float64frombits", "math.archTrunc"], named := ["internal/strconv.uint64pow10", "math/bits.deBruijn32tab", "math/bits.deBruijn64tab"], apart := false, laid := [("math/bits.deBruijn32tab", laid_math_bits_deBruijn32tab), ("math/bits.deBruijn64tab", laid_math_bits_deBruijn64tab), ("internal/strconv.uint64pow10", laid_internal_strconv_uint64pow10)], narrowed := true }
def SpotOfUptoSaid : Prop := spotOfUptoRow.holds Tryd.pinned (OpenSpec.upto spotOfSpec)

/-- 'recensionlaw01.SpotIs', WHERE WHAT IT READS IS OF BULK AT MOST 1048576: true; the input reads as it did. -/
def spotIsUptoRow : OpenClaim := { program := "ytnkmcjkmabjfhaadoor", sum := "efdc592c6f7297df8f0f413f8926038ea890e2283fb2c4b6376f43a77ee1484b", func := "recension/recensionlaw01.SpotIs", spec := "spotIs", inPlace := ["math.archFloor", "math.Float64bits", "math.Float64frombits", "math.archTrunc"], named := ["internal/strconv.uint64pow10", "math/bits.deBruijn32tab", "math/bits.deBruijn64tab"], apart := false, laid := [("math/bits.deBruijn32tab", laid_math_bits_deBruijn32tab), ("math/bits.deBruijn64tab", laid_math_bits_deBruijn64tab), ("internal/strconv.uint64pow10", laid_internal_strconv_uint64pow10)], narrowed := true }
def SpotIsUptoSaid : Prop := spotIsUptoRow.holds Tryd.pinned (OpenSpec.upto spotIsSpec)

/-- 'recensionlaw01.SpotJoins', WHERE WHAT IT READS IS OF BULK AT MOST 1048576: true; the input reads as it did. -/
def spotJoinsUptoRow : OpenClaim := { program := "ytnkmcjkmabjfhaadoor", sum := "efdc592c6f7297df8f0f413f8926038ea890e2283fb2c4b6376f43a77ee1484b", func := "recension/recensionlaw01.SpotJoins", spec := "spotJoins", inPlace := ["math.archFloor", "math.Float64bits", "math.Float64frombits", "math.archTrunc"], named := ["internal/strconv.uint64pow10", "math/bits.deBruijn32tab", "math/bits.deBruijn64tab"], apart := false, laid := [("math/bits.deBruijn32tab", laid_math_bits_deBruijn32tab), ("math/bits.deBruijn64tab", laid_math_bits_deBruijn64tab), ("internal/strconv.uint64pow10", laid_internal_strconv_uint64pow10)], narrowed := true }
def SpotJoinsUptoSaid : Prop := spotJoinsUptoRow.holds Tryd.pinned (OpenSpec.upto spotJoinsSpec)

/-- 'recensionlaw01.SpotAdds', WHERE WHAT IT READS IS OF BULK AT MOST 1048576: true; the input reads as it did. -/
def spotAddsUptoRow : OpenClaim := { program := "ytnkmcjkmabjfhaadoor", sum := "efdc592c6f7297df8f0f413f8926038ea890e2283fb2c4b6376f43a77ee1484b", func := "recension/recensionlaw01.SpotAdds", spec := "spotAdds", inPlace := ["math.archFloor", "math.Float64bits", "math.Float64frombits", "math.archTrunc"], named := ["internal/strconv.uint64pow10", "math/bits.deBruijn32tab", "math/bits.deBruijn64tab"], apart := false, laid := [("math/bits.deBruijn32tab", laid_math_bits_deBruijn32tab), ("math/bits.deBruijn64tab", laid_math_bits_deBruijn64tab), ("internal/strconv.uint64pow10", laid_internal_strconv_uint64pow10)], narrowed := true }
def SpotAddsUptoSaid : Prop := spotAddsUptoRow.holds Tryd.pinned (OpenSpec.upto spotAddsSpec)

/-- 'recensionlaw01.SpotGroups', WHERE WHAT IT READS IS OF BULK AT MOST 1048576: true; the input reads as it did. -/
def spotGroupsUptoRow : OpenClaim := { program := "ytnkmcjkmabjfhaadoor", sum := "efdc592c6f7297df8f0f413f8926038ea890e2283fb2c4b6376f43a77ee1484b", func := "recension/recensionlaw01.SpotGroups", spec := "spotGroups", inPlace := ["math.archFloor", "math.Float64bits", "math.Float64frombits", "math.archTrunc"], named := ["internal/strconv.uint64pow10", "math/bits.deBruijn32tab", "math/bits.deBruijn64tab"], apart := false, laid := [("math/bits.deBruijn32tab", laid_math_bits_deBruijn32tab), ("math/bits.deBruijn64tab", laid_math_bits_deBruijn64tab), ("internal/strconv.uint64pow10", laid_internal_strconv_uint64pow10)], narrowed := true }
def SpotGroupsUptoSaid : Prop := spotGroupsUptoRow.holds Tryd.pinned (OpenSpec.upto spotGroupsSpec)

/-- 'recensionlaw01.SpotAts', WHERE WHAT IT READS IS OF BULK AT MOST 1048576: true; the input reads as it did. -/
def spotAtsUptoRow : OpenClaim := { program := "ytnkmcjkmabjfhaadoor", sum := "efdc592c6f7297df8f0f413f8926038ea890e2283fb2c4b6376f43a77ee1484b", func := "recension/recensionlaw01.SpotAts", spec := "spotAts", inPlace := ["math.archFloor", "math.Float64bits", "math.Float64frombits", "math.archTrunc"], named := ["internal/strconv.uint64pow10", "math/bits.deBruijn32tab", "math/bits.deBruijn64tab"], apart := false, laid := [("math/bits.deBruijn32tab", laid_math_bits_deBruijn32tab), ("math/bits.deBruijn64tab", laid_math_bits_deBruijn64tab), ("internal/strconv.uint64pow10", laid_internal_strconv_uint64pow10)], narrowed := true }
def SpotAtsUptoSaid : Prop := spotAtsUptoRow.holds Tryd.pinned (OpenSpec.upto spotAtsSpec)

/-- 'recensionlaw01.SpotOrders', WHERE WHAT IT READS IS OF BULK AT MOST 1048576: true; the input reads as it did. -/
def spotOrdersUptoRow : OpenClaim := { program := "ytnkmcjkmabjfhaadoor", sum := "efdc592c6f7297df8f0f413f8926038ea890e2283fb2c4b6376f43a77ee1484b", func := "recension/recensionlaw01.SpotOrders", spec := "spotOrders", inPlace := ["math.archFloor", "math.Float64bits", "math.Float64frombits", "math.archTrunc"], named := ["internal/strconv.uint64pow10", "math/bits.deBruijn32tab", "math/bits.deBruijn64tab"], apart := false, laid := [("math/bits.deBruijn32tab", laid_math_bits_deBruijn32tab), ("math/bits.deBruijn64tab", laid_math_bits_deBruijn64tab), ("internal/strconv.uint64pow10", laid_internal_strconv_uint64pow10)], narrowed := true }
def SpotOrdersUptoSaid : Prop := spotOrdersUptoRow.holds Tryd.pinned (OpenSpec.upto spotOrdersSpec)

/-- 'recensionlaw01.SpotFinds', WHERE WHAT IT READS IS OF BULK AT MOST 1048576: true; the input reads as it did. -/
def spotFindsUptoRow : OpenClaim := { program := "ytnkmcjkmabjfhaadoor", sum := "efdc592c6f7297df8f0f413f8926038ea890e2283fb2c4b6376f43a77ee1484b", func := "recension/recensionlaw01.SpotFinds", spec := "spotFinds", inPlace := ["math.archFloor", "math.Float64bits", "math.Float64frombits", "math.archTrunc"], named := ["internal/strconv.uint64pow10", "math/bits.deBruijn32tab", "math/bits.deBruijn64tab"], apart := false, laid := [("math/bits.deBruijn32tab", laid_math_bits_deBruijn32tab), ("math/bits.deBruijn64tab", laid_math_bits_deBruijn64tab), ("internal/strconv.uint64pow10", laid_internal_strconv_uint64pow10)], narrowed := true }
def SpotFindsUptoSaid : Prop := spotFindsUptoRow.holds Tryd.pinned (OpenSpec.upto spotFindsSpec)

/-- 'recensionlaw01.SpotRises', WHERE WHAT IT READS IS OF BULK AT MOST 1048576: true; the input reads as it did. -/
def spotRisesUptoRow : OpenClaim := { program := "ytnkmcjkmabjfhaadoor", sum := "efdc592c6f7297df8f0f413f8926038ea890e2283fb2c4b6376f43a77ee1484b", func := "recension/recensionlaw01.SpotRises", spec := "spotRises", inPlace := ["math.archFloor", "math.Float64bits", "math.Float64frombits", "math.archTrunc"], named := ["internal/strconv.uint64pow10", "math/bits.deBruijn32tab", "math/bits.deBruijn64tab"], apart := false, laid := [("math/bits.deBruijn32tab", laid_math_bits_deBruijn32tab), ("math/bits.deBruijn64tab", laid_math_bits_deBruijn64tab), ("internal/strconv.uint64pow10", laid_internal_strconv_uint64pow10)], narrowed := true }
def SpotRisesUptoSaid : Prop := spotRisesUptoRow.holds Tryd.pinned (OpenSpec.upto spotRisesSpec)

/-- 'recensionlaw01.SpotBack', WHERE WHAT IT READS IS OF BULK AT MOST 1048576: true; the input reads as it did. -/
def spotBackUptoRow : OpenClaim := { program := "ytnkmcjkmabjfhaadoor", sum := "efdc592c6f7297df8f0f413f8926038ea890e2283fb2c4b6376f43a77ee1484b", func := "recension/recensionlaw01.SpotBack", spec := "spotBack", inPlace := ["math.archFloor", "math.Float64bits", "math.Float64frombits", "math.archTrunc"], named := ["internal/strconv.uint64pow10", "math/bits.deBruijn32tab", "math/bits.deBruijn64tab"], apart := false, laid := [("math/bits.deBruijn32tab", laid_math_bits_deBruijn32tab), ("math/bits.deBruijn64tab", laid_math_bits_deBruijn64tab), ("internal/strconv.uint64pow10", laid_internal_strconv_uint64pow10)], narrowed := true }
def SpotBackUptoSaid : Prop := spotBackUptoRow.holds Tryd.pinned (OpenSpec.upto spotBackSpec)

/-- 'recensionlaw01.SpotTexts', WHERE WHAT IT READS IS OF BULK AT MOST 1048576: true; the input reads as it did. -/
def spotTextsUptoRow : OpenClaim := { program := "ytnkmcjkmabjfhaadoor", sum := "efdc592c6f7297df8f0f413f8926038ea890e2283fb2c4b6376f43a77ee1484b", func := "recension/recensionlaw01.SpotTexts", spec := "spotTexts", inPlace := ["internal/bytealg.IndexByteString", "internal/bytealg.IndexString", "math.archFloor", "math.Float64bits", "math.Float64frombits", "math.archTrunc"], recurses := true, named := ["internal/bytealg.MaxLen", "strconv.ErrSyntax", "strconv.ErrRange", "internal/strconv.uint64pow10", "math/bits.deBruijn32tab", "math/bits.deBruijn64tab"], apart := false, laid := [("math/bits.deBruijn32tab", laid_math_bits_deBruijn32tab), ("math/bits.deBruijn64tab", laid_math_bits_deBruijn64tab), ("internal/strconv.uint64pow10", laid_internal_strconv_uint64pow10), ("strconv.ErrRange", laid_strconv_ErrRange), ("strconv.ErrSyntax", laid_strconv_ErrSyntax)], narrowed := true }
def SpotTextsUptoSaid : Prop := spotTextsUptoRow.holds Tryd.pinned (OpenSpec.upto spotTextsSpec)

/-- 'recensionlaw01.SpotReads', WHERE WHAT IT READS IS OF BULK AT MOST 1048576: true; the input reads as it did. -/
def spotReadsUptoRow : OpenClaim := { program := "ytnkmcjkmabjfhaadoor", sum := "efdc592c6f7297df8f0f413f8926038ea890e2283fb2c4b6376f43a77ee1484b", func := "recension/recensionlaw01.SpotReads", spec := "spotReads", inPlace := ["math.archFloor", "math.Float64bits", "math.Float64frombits", "math.archTrunc", "internal/bytealg.IndexByteString", "internal/bytealg.IndexString"], named := ["internal/strconv.uint64pow10", "math/bits.deBruijn32tab", "math/bits.deBruijn64tab", "internal/bytealg.MaxLen", "strconv.ErrSyntax", "strconv.ErrRange"], apart := false, laid := [("math/bits.deBruijn32tab", laid_math_bits_deBruijn32tab), ("math/bits.deBruijn64tab", laid_math_bits_deBruijn64tab), ("internal/strconv.uint64pow10", laid_internal_strconv_uint64pow10), ("strconv.ErrRange", laid_strconv_ErrRange), ("strconv.ErrSyntax", laid_strconv_ErrSyntax)], narrowed := true }
def SpotReadsUptoSaid : Prop := spotReadsUptoRow.holds Tryd.pinned (OpenSpec.upto spotReadsSpec)

end Rows
end Go.Proofs.YtnkmcjkmabjfhaaDoor
