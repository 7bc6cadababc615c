/- A world for the witnesses: the two tables hold what their initialisers lay. -/
import Derived.Test.YtlenmkemjaaaoaaDoorCards
import Derived.Test.YtlenmkemjaaaoaaDoorTie
import Derived.Test.YtlenmkemjaaaoaaDoorPost
import Derived.Lib.LaidTab
import Derived.SizedLaws
namespace Go.Proofs.YtlenmkemjaaaoaaDoor
open Go.ChangeShapes Go.WideShapes Go.ChangeAt Go.RowKit

theorem own : ownKnob Tryd.prog.godebug = none := by kernel_rfl
theorem laidOut : laidOutB Tryd.prog = true := by kernel_rfl
def tab0 : List Int := [128, 191, 160, 191, 128, 159, 144, 191, 128, 143, 0, 0, 0, 0, 0, 0, 0, 0, 0, 0, 0, 0, 0, 0, 0, 0, 0, 0, 0, 0, 0, 0]
noncomputable def laidWorld (os : Os) : World :=
  { World.holding Tryd.prog os ⟨#[], #[], []⟩ with heap := ((((World.holding Tryd.prog os ⟨#[], #[], []⟩).heap).modify 2 fun
      | .cells _ t frozen => .cells (tab0.map (Value.int .u8)).toArray t frozen
      | o => o).modify 1 fun
      | .cells _ t frozen => .cells (Go.Pinned.utf8FirstZ.map fun (n : Nat) => Value.int .u8 n).toArray t frozen
      | o => o) }
theorem bool_res : Tryd.prog.underlying 4 = some .bool := Tryd.underlying4
end Go.Proofs.YtlenmkemjaaaoaaDoor
