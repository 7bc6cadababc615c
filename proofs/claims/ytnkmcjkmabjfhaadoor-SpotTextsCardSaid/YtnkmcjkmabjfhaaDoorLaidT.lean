/- A world for the witnesses: the three tables and the two errors hold what their initialisers lay; what the laid table gives. -/
import Derived.Test.YtnkmcjkmabjfhaaDoorLaidS
import Derived.Test.YtnkmcjkmabjfhaaDoorSpotT
import Derived.Stop.LaidErr
namespace Go.Proofs.YtnkmcjkmabjfhaaDoor
open Go.ChangeShapes Go.WideShapes Go.ChangeAt Go.RowKit

noncomputable def low : Nat := (World.holding Tryd.prog default ⟨#[], #[], []⟩).heap.size
noncomputable def laidWorldT (os : Os) : World :=
  { World.holding Tryd.prog os ⟨#[.cells #[.string ⟨#[118, 97, 108, 117, 101, 32, 111, 117, 116, 32, 111, 102, 32, 114, 97, 110, 103, 101]⟩] 113, .cells #[.string ⟨#[105, 110, 118, 97, 108, 105, 100, 32, 115, 121, 110, 116, 97, 120]⟩] 113], #[], []⟩ with heap := (((((((World.holding Tryd.prog os ⟨#[.cells #[.string ⟨#[118, 97, 108, 117, 101, 32, 111, 117, 116, 32, 111, 102, 32, 114, 97, 110, 103, 101]⟩] 113, .cells #[.string ⟨#[105, 110, 118, 97, 108, 105, 100, 32, 115, 121, 110, 116, 97, 120]⟩] 113], #[], []⟩).heap).modify 5 fun
      | .cells _ t frozen => .cells (tab0.map (Value.int .u8)).toArray t frozen
      | o => o).modify 6 fun
      | .cells _ t frozen => .cells (tab1.map (Value.int .u8)).toArray t frozen
      | o => o).modify 4 fun
      | .cells _ t frozen => .cells (tab2.map (Value.int .u64)).toArray t frozen
      | o => o).modify 3 fun
      | .cells _ t frozen => .cells #[.iface 111 (.pointer (some ⟨low + 0, 0, none⟩))] t frozen
      | o => o).modify 2 fun
      | .cells _ t frozen => .cells #[.iface 111 (.pointer (some ⟨low + 1, 0, none⟩))] t frozen
      | o => o) }
theorem gPowType : (Tryd.prog.globals[4]?).map (·.type) = some 103 := by kernel_rfl
theorem cells20 : Tryd.prog.cellsOf 103 = 20 := by kernel_rfl
theorem cells64 : Tryd.prog.cellsOf 87 = 1 := by kernel_rfl
theorem tab_laid {W : World} {x y : String × DataW Unit} {rest : List (String × DataW Unit)} (h : laidMet Tryd.prog (x :: y :: ("internal/strconv.uint64pow10", Rows.laid_internal_strconv_uint64pow10) :: rest) W) : TabK W :=
  Lib.tabIs_of_head (rest := rest) gPow gPowType Tryd.underlying103 Tryd.underlying87 cells64 cells20 (laidMet.tail (laidMet.tail h))
end Go.Proofs.YtnkmcjkmabjfhaaDoor
