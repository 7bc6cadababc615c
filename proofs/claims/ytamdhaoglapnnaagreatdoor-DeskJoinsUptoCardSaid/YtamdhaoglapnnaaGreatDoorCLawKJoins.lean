/- DeskJoins: words that are joined by blanks are those words: the tied card, where what it reads is of bulk at most 1048576. -/
import Derived.Test.YtamdhaoglapnnaaGreatDoorCLawKJoinsA
import Derived.Test.YtamdhaoglapnnaaGreatDoorCLawKJoinsJ
namespace Go.Proofs.YtamdhaoglapnnaaGreatDoor.deskJoinsUpto
open Go.ChangeShapes Go.WideShapes Go.ChangeAt Go.RowKit

theorem said : Rows.DeskJoinsUptoSaid :=
  OpenClaim.holds_of_cond 4 Tryz.f4 rfl rfl rfl rfl rfl rfl rfl ⟨rfl, rfl, rfl, rfl, rfl⟩ rfl rfl rfl rfl rfl nameIs Tryz.func4 closed inst wrap
    (fun os started H enc _ F => by rw [OpenClaim.pre_eq_preRow]; exact lifted os started H enc F)

theorem card : Rows.DeskJoinsUptoCardSaid :=
  Claim7.holds_tied_plain_at .later [] _ _ _ _ said (fun _ h => by cases h) byText (fun _ h => by cases h) deskJoinsUpto_row_tie rfl ⟨rfl, rfl⟩ (by kernel_rfl) rfl plain goes
#print axioms card
end Go.Proofs.YtamdhaoglapnnaaGreatDoor.deskJoinsUpto
