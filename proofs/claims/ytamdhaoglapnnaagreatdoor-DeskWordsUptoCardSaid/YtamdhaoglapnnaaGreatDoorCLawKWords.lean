/- DeskWords: the words of every line are the ones of the document, or it has none: the tied card, where what it reads is of bulk at most 1048576. -/
import Derived.Test.YtamdhaoglapnnaaGreatDoorCLawKWordsA
import Derived.Test.YtamdhaoglapnnaaGreatDoorCLawKWordsJ
namespace Go.Proofs.YtamdhaoglapnnaaGreatDoor.deskWordsUpto
open Go.ChangeShapes Go.WideShapes Go.ChangeAt Go.RowKit

theorem said : Rows.DeskWordsUptoSaid :=
  OpenClaim.holds_of_cond 3 Tryz.f3 rfl rfl rfl rfl rfl rfl rfl ⟨rfl, rfl, rfl, rfl, rfl⟩ rfl rfl rfl rfl rfl nameIs Tryz.func3 closed inst wrap
    (fun os started H enc _ F => by rw [OpenClaim.pre_eq_preRow]; exact lifted os started H enc F)

theorem card : Rows.DeskWordsUptoCardSaid :=
  Claim7.holds_tied_plain_at .later [] _ _ _ _ said (fun _ h => by cases h) byText (fun _ h => by cases h) deskWordsUpto_row_tie rfl ⟨rfl, rfl⟩ (by kernel_rfl) rfl plain goes
#print axioms card
end Go.Proofs.YtamdhaoglapnnaaGreatDoor.deskWordsUpto
