/- Small words on bytes and digests. -/
import Derived.Test.YtlenmkemjaaaoaaDoorAppend
import Derived.Test.YtlenmkemjaaaoaaDoorWord
import Derived.Test.YtlenmkemjaaaoaaDoorPerm
import Derived.Test.YtlenmkemjaaaoaaDoorRows
import Derived.Deep.WholeRow
import Derived.BigRegion
import Derived.BigQuiet
import Derived.Deep.QuietTactic
import Derived.StillTailTactics
import Derived.LoopTactic
import Derived.IntWalk
import Derived.WalkSmall
namespace Go.Proofs.YtlenmkemjaaaoaaDoor
open Go.RowKit

theorem all_B (l : List UInt8) : ∀ v ∈ l.map B, v.oneCell' = true := by
  intro v hv
  obtain ⟨x, _, rfl⟩ := List.mem_map.1 hv
  rfl
def zero32 : List Value := List.replicate 32 (B 0)
theorem zeros32 : (Tryd.prog.info? 57).map (fun i => (i.zero, i.size)) = some (some (.agg zero32.toArray), 32) := by kernel_rfl
theorem info8 : InfoOf Tryd.prog 5 (B 0) 1 1 := ⟨by kernel_rfl, rfl, by decide⟩
end Go.Proofs.YtlenmkemjaaaoaaDoor
