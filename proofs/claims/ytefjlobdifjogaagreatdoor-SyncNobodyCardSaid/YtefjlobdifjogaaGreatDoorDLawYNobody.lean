/- SyncNobody: clients and repositories that nobody made say nothing, and are asked for nothing: the tied card. -/
import Derived.Test.YtefjlobdifjogaaGreatDoorDLawYNobodyA
import Derived.Test.YtefjlobdifjogaaGreatDoorDLawYNobodyJ
namespace Go.Proofs.YtefjlobdifjogaaGreatDoor.syncNobody
open Go.ChangeShapes Go.WideShapes Go.ChangeAt Go.RowKit

theorem said : Rows.SyncNobodySaid :=
  OpenClaim.holds_of_cond 4 Tryz.f4 rfl rfl rfl rfl rfl rfl rfl ⟨rfl, rfl, rfl, rfl, rfl⟩ rfl rfl rfl rfl rfl nameIs Tryz.func4 closed inst wrap
    (fun os started H enc _ F => by rw [OpenClaim.pre_eq_preRow]; exact lifted os started H enc F)

theorem card : Rows.SyncNobodyCardSaid :=
  Claim7.holds_tied_plain_at .later [] _ _ _ _ said (fun _ h => by cases h) byText (fun _ h => by cases h) syncNobody_row_tie rfl ⟨rfl, rfl⟩ (by kernel_rfl) rfl plain goes
#print axioms card
end Go.Proofs.YtefjlobdifjogaaGreatDoor.syncNobody
