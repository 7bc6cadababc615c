/- What the listed variable gives, and a world for the witnesses. -/
import Derived.Test.YtahjfnnmaalnoaaDoorCards
import Derived.Test.YtahjfnnmaalnoaaDoorTie
import Derived.Test.YtahjfnnmaalnoaaDoorMixA
import Derived.Test.YtahjfnnmaalnoaaDoorPost
import Derived.Lib.LaidTab
namespace Go.Proofs.YtahjfnnmaalnoaaDoor
open Go.ChangeShapes Go.WideShapes Go.ChangeAt Go.RowKit

theorem own : ownKnob Tryd.prog.godebug = none := by kernel_rfl
theorem laidOut : laidOutB Tryd.prog = true := by kernel_rfl
theorem gKeys : Tryd.prog.globalNamed "recension/digest.keys" = some 0 := by kernel_rfl
theorem gKeysType : (Tryd.prog.globals[0]?).map (·.type) = some 62 := by kernel_rfl
theorem cells64 : Tryd.prog.cellsOf 62 = 64 := by kernel_rfl
theorem cells32 : Tryd.prog.cellsOf 43 = 1 := by kernel_rfl
def keysZ : List Int := keysL.map wv
theorem keys_laid {W : World} (h : laidMetH Tryd.prog [("recension/digest.keys", Rows.laid_recension_digest_keys)] W) : KeysIn W := by
  have ht : Lib.TabIs Tryd.prog W "recension/digest.keys" .u32 keysZ :=
    Lib.tabIs_of_head (rest := []) gKeys gKeysType Tryd.underlying62 Tryd.underlying43 cells32 cells64 h
  intro i hi
  have := ht.cell gKeys i (by show i < 64; exact hi)
  rw [this]
  have hl : i < keysL.length := hi
  simp [keysZ, hl]

/-- A world for the witness: the settled one, the table holding what its initialiser lays. -/
noncomputable def laidWorld (os : Os) : World :=
  { World.holding Tryd.prog os ⟨#[], #[], []⟩ with heap := (World.holding Tryd.prog os ⟨#[], #[], []⟩).heap.modify 0 fun
      | .cells _ t frozen => .cells (keysL.map W).toArray t frozen
      | o => o }
theorem bool_res : Tryd.prog.underlying 4 = some .bool := Tryd.underlying4
end Go.Proofs.YtahjfnnmaalnoaaDoor
