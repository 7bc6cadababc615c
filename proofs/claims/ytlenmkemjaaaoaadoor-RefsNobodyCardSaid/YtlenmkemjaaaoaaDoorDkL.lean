/- The library's call at the disk: maps.Clone. -/
import Derived.Test.YtlenmkemjaaaoaaDoorDkW
import Derived.Test.YtlenmkemjaaaoaaDoorShelfG
namespace Go.Proofs.YtlenmkemjaaaoaaDoor
open Go.RowKit Go.Maps Go.Sort Go.Shelf

theorem mclone_any (w : World) (b : Nat) (D : DM) (h : MapIs w b D) :
    Calls Tryd.prog 63 #[.map (some b)] w fun e w' => e = .returned (.map (some w.heap.size)) ∧ MapIs w' w.heap.size D ∧ Below w.heap.size w w' := by
  have hc := AnyW.maps_Clone_owns Tryd.cloneM 9 (plainElem (H := Unit) Tryd.prog 9) b (fLen D) D w h
  change Calls Tryd.prog 63 _ _ _ at hc
  exact hc.mono fun e w' ⟨h1, h2, _, h4⟩ => ⟨h1, h2, h4⟩

theorem callInfo : (Tryd.prog.info? 120).map (fun i => (i.zero, i.size, i.bytes)) = some (some (.agg #[.nilFunc]), 1, 8) := by kernel_rfl
end Go.Proofs.YtlenmkemjaaaoaaDoor
