/- SyncSames: whether two messages are the same is told by their parts, either way round: the tied card. -/
import Derived.Test.YtefjlobdifjogaaGreatDoorCLawYSamesA
import Derived.Test.YtefjlobdifjogaaGreatDoorCLawYSamesJ
namespace Go.Proofs.YtefjlobdifjogaaGreatDoor.syncSames
open Go.ChangeShapes Go.WideShapes Go.ChangeAt Go.RowKit

theorem said : Rows.SyncSamesSaid :=
  OpenClaim.holds_of_cond 3 Tryz.f3 rfl rfl rfl rfl rfl rfl rfl ⟨rfl, rfl, rfl, rfl, rfl⟩ rfl rfl rfl rfl rfl nameIs Tryz.func3 closed inst wrap
    (fun os started H enc _ F => by rw [OpenClaim.pre_eq_preRow]; exact lifted os started H enc F)

theorem card : Rows.SyncSamesCardSaid :=
  Claim7.holds_tied_plain_at .later [] _ _ _ _ said (fun _ h => by cases h) byText (fun _ h => by cases h) syncSames_row_tie rfl ⟨rfl, rfl⟩ (by kernel_rfl) rfl plain goes
#print axioms card
end Go.Proofs.YtefjlobdifjogaaGreatDoor.syncSames
