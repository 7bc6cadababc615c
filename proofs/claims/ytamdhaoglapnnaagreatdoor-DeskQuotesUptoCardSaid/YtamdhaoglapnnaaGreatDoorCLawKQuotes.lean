/- DeskQuotes: every text is quoted as the document says, and every text is read as a quoted one, or refused, as it says: the tied card, where what it reads is of bulk at most 1048576. -/
import Derived.Test.YtamdhaoglapnnaaGreatDoorCLawKQuotesA
import Derived.Test.YtamdhaoglapnnaaGreatDoorCLawKQuotesJ
namespace Go.Proofs.YtamdhaoglapnnaaGreatDoor.deskQuotesUpto
open Go.ChangeShapes Go.WideShapes Go.ChangeAt Go.RowKit

theorem said : Rows.DeskQuotesUptoSaid :=
  OpenClaim.holds_of_cond 6 Tryz.f6 rfl rfl rfl rfl rfl rfl rfl ⟨rfl, rfl, rfl, rfl, rfl⟩ rfl rfl rfl rfl rfl nameIs Tryz.func6 closed inst wrap
    (fun os started H enc _ F => by rw [OpenClaim.pre_eq_preRow]; exact lifted os started H enc F)

theorem card : Rows.DeskQuotesUptoCardSaid :=
  Claim7.holds_tied_plain_at .later [] _ _ _ _ said (fun _ h => by cases h) byText (fun _ h => by cases h) deskQuotesUpto_row_tie rfl ⟨rfl, rfl⟩ (by kernel_rfl) rfl plain goes
#print axioms card
end Go.Proofs.YtamdhaoglapnnaaGreatDoor.deskQuotesUpto
