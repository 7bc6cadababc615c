/- A world for the witnesses: the three tables hold what their initialisers lay. -/
import Derived.Test.YtnkmcjkmabjfhaaDoorCards
import Derived.Test.YtnkmcjkmabjfhaaDoorTie
import Derived.Test.YtnkmcjkmabjfhaaDoorPost
import Derived.Lib.LaidTab
import Derived.SizedLaws
namespace Go.Proofs.YtnkmcjkmabjfhaaDoor
open Go.ChangeShapes Go.WideShapes Go.ChangeAt Go.RowKit

theorem own : ownKnob Tryd.prog.godebug = none := by kernel_rfl
theorem laidOut : laidOutB Tryd.prog = true := by kernel_rfl
def tab0 : List Int := [0, 1, 28, 2, 29, 14, 24, 3, 30, 22, 20, 15, 25, 17, 4, 8, 31, 27, 13, 23, 21, 19, 16, 7, 26, 12, 18, 6, 11, 5, 10, 9]
def tab1 : List Int := [0, 1, 56, 2, 57, 49, 28, 3, 61, 58, 42, 50, 38, 29, 17, 4, 62, 47, 59, 36, 45, 43, 51, 22, 53, 39, 33, 30, 24, 18, 12, 5, 63, 55, 48, 27, 60, 41, 37, 16, 46, 35, 44, 21, 52, 32, 23, 11, 54, 26, 40, 15, 34, 20, 31, 10, 25, 14, 19, 9, 13, 8, 7, 6]
def tab2 : List Int := [1, 10, 100, 1000, 10000, 100000, 1000000, 10000000, 100000000, 1000000000, 10000000000, 100000000000, 1000000000000, 10000000000000, 100000000000000, 1000000000000000, 10000000000000000, 100000000000000000, 1000000000000000000, 10000000000000000000]

noncomputable def laidWorld (os : Os) : World :=
  { World.holding Tryd.prog os ⟨#[], #[], []⟩ with heap := (((((World.holding Tryd.prog os ⟨#[], #[], []⟩).heap).modify 5 fun
      | .cells _ t frozen => .cells (tab0.map (Value.int .u8)).toArray t frozen
      | o => o).modify 6 fun
      | .cells _ t frozen => .cells (tab1.map (Value.int .u8)).toArray t frozen
      | o => o).modify 4 fun
      | .cells _ t frozen => .cells (tab2.map (Value.int .u64)).toArray t frozen
      | o => o) }
theorem bool_res : Tryd.prog.underlying 4 = some .bool := Tryd.underlying4
end Go.Proofs.YtnkmcjkmabjfhaaDoor
