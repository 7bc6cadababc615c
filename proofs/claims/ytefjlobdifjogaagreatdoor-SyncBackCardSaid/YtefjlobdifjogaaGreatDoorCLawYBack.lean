/- SyncBack: what is written of a message is read as that message, and what is read is written so: the tied card. -/
import Derived.Test.YtefjlobdifjogaaGreatDoorCLawYBackA
import Derived.Test.YtefjlobdifjogaaGreatDoorCLawYBackJ
namespace Go.Proofs.YtefjlobdifjogaaGreatDoor.syncBack
open Go.ChangeShapes Go.WideShapes Go.ChangeAt Go.RowKit

theorem said : Rows.SyncBackSaid :=
  OpenClaim.holds_of_cond 5 Tryz.f5 rfl rfl rfl rfl rfl rfl rfl ⟨rfl, rfl, rfl, rfl, rfl⟩ rfl rfl rfl rfl rfl nameIs Tryz.func5 closed inst wrap
    (fun os started H enc _ F => by rw [OpenClaim.pre_eq_preRow]; exact lifted os started H enc F)

theorem card : Rows.SyncBackCardSaid :=
  Claim7.holds_tied_plain_at .later [] _ _ _ _ said (fun _ h => by cases h) byText (fun _ h => by cases h) syncBack_row_tie rfl ⟨rfl, rfl⟩ (by kernel_rfl) rfl plain goes
#print axioms card
end Go.Proofs.YtefjlobdifjogaaGreatDoor.syncBack
