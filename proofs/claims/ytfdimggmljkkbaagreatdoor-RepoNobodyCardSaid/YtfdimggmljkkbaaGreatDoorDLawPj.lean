/- Closed facts of the program. -/
import Derived.Test.YtfdimggmljkkbaaGreatDoorCards
import Derived.Test.YtfdimggmljkkbaaGreatDoorTie
import Derived.Test.YtfdimggmljkkbaaGreatDoorP01
import Derived.SizedLaws
namespace Go.Proofs.YtfdimggmljkkbaaGreatDoor
open Go.ChangeShapes Go.WideShapes Go.ChangeAt Go.RowKit

theorem laidOutF : (laidOutB Tryz.prog) = true := by kernel_rfl
theorem mapsRowedF : (mapsRowed Tryz.prog) = true := by kernel_rfl
theorem stopsF : ((Tryz.prog.stops == [])) = true := by kernel_rfl
theorem knobsF : ((Tryz.prog.stopKnobs == [])) = true := by kernel_rfl
theorem stopsHeardF : (Tryz.prog.stopsHeard) = true := by kernel_rfl
theorem mayEnterF : (Tryz.prog.mayEnter) = true := by kernel_rfl
end Go.Proofs.YtfdimggmljkkbaaGreatDoor
