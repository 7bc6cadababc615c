/- WorldNobody: a world that nobody made has nothing, and does nothing: the tied card. -/
import Derived.Test.YtefjlobdifjogaaGreatDoorDLawWNobodyA
import Derived.Test.YtefjlobdifjogaaGreatDoorDLawWNobodyJ
namespace Go.Proofs.YtefjlobdifjogaaGreatDoor.worldNobody
open Go.ChangeShapes Go.WideShapes Go.ChangeAt Go.RowKit

theorem said : Rows.WorldNobodySaid :=
  OpenClaim.holds_of_cond 7 Tryz.f7 rfl rfl rfl rfl rfl rfl rfl ⟨rfl, rfl, rfl, rfl, rfl⟩ rfl rfl rfl rfl rfl nameIs Tryz.func7 closed inst wrap
    (fun os started H enc _ F => by rw [OpenClaim.pre_eq_preRow]; exact lifted os started H enc F)

theorem card : Rows.WorldNobodyCardSaid :=
  Claim7.holds_tied_plain_at .later [] _ _ _ _ said (fun _ h => by cases h) byText (fun _ h => by cases h) worldNobody_row_tie rfl ⟨rfl, rfl⟩ (by kernel_rfl) rfl plain goes
#print axioms card
end Go.Proofs.YtefjlobdifjogaaGreatDoor.worldNobody
