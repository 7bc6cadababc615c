/- SyncSpoilt: a message in which one byte is another one is refused, unless two unlike texts have one digest: the tied card. -/
import Derived.Test.YtefjlobdifjogaaGreatDoorDLawYSpoiltA
import Derived.Test.YtefjlobdifjogaaGreatDoorDLawYSpoiltJ
namespace Go.Proofs.YtefjlobdifjogaaGreatDoor.syncSpoilt
open Go.ChangeShapes Go.WideShapes Go.ChangeAt Go.RowKit

theorem said : Rows.SyncSpoiltSaid :=
  OpenClaim.holds_of_cond 6 Tryz.f6 rfl rfl rfl rfl rfl rfl rfl ⟨rfl, rfl, rfl, rfl, rfl⟩ rfl rfl rfl rfl rfl nameIs Tryz.func6 closed inst wrap
    (fun os started H enc _ F => by rw [OpenClaim.pre_eq_preRow]; exact lifted os started H enc F)

theorem card : Rows.SyncSpoiltCardSaid :=
  Claim7.holds_tied_plain_at .later [] _ _ _ _ said (fun _ h => by cases h) byText (fun _ h => by cases h) syncSpoilt_row_tie rfl ⟨rfl, rfl⟩ (by kernel_rfl) rfl plain goes
#print axioms card
end Go.Proofs.YtefjlobdifjogaaGreatDoor.syncSpoilt
