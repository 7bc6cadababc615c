/- RepoNobody: a repository that nobody opened has nothing, and does nothing: the tied card. -/
import Derived.Test.YtfdimggmljkkbaaGreatDoorDLawJNobodyA
import Derived.Test.YtfdimggmljkkbaaGreatDoorDLawJNobodyJ
namespace Go.Proofs.YtfdimggmljkkbaaGreatDoor.repoNobody
open Go.ChangeShapes Go.WideShapes Go.ChangeAt Go.RowKit

theorem said : Rows.RepoNobodySaid :=
  OpenClaim.holds_of_cond 3 Tryz.f3 rfl rfl rfl rfl rfl rfl rfl ⟨rfl, rfl, rfl, rfl, rfl⟩ rfl rfl rfl rfl rfl nameIs Tryz.func3 closed inst wrap
    (fun os started H enc _ F => by rw [OpenClaim.pre_eq_preRow]; exact lifted os started H enc F)

theorem card : Rows.RepoNobodyCardSaid :=
  Claim7.holds_tied_plain_at .later [] _ _ _ _ said (fun _ h => by cases h) byText (fun _ h => by cases h) repoNobody_row_tie rfl ⟨rfl, rfl⟩ (by kernel_rfl) rfl plain goes
#print axioms card
end Go.Proofs.YtfdimggmljkkbaaGreatDoor.repoNobody
