/- The walks of first and New. -/
import Derived.Test.YtahjfnnmaalnoaaDoorMixA
import Derived.Deep.DeepMust
namespace Go.Proofs.YtahjfnnmaalnoaaDoor
open Go.RowKit

/-- A hash's cells. -/
def hashCells (made : Bool) (s : St) (rest : List UInt8) (n : Nat) : List Value := .bool made :: (s.cells ++ (rest.map B ++ [.int .i64 (n : Int)]))

set_option maxHeartbeats 400000 in
theorem first_any (w : World) :
    Calls Tryd.prog 29 #[] w fun e w' => e = .returned (.agg st0.cells.toArray) ∧ Below w.heap.size w w' := by
  go_enter Tryd.func29, Tryd.ntmps29
  go_wp2
  refine bodyPost_ret (v := .agg st0.cells.toArray) (by simp [results, Tryd.results29, go_sem]; rfl) rfl ⟨rfl, (Below.refl _ _).alloc (Nat.le_refl _) _⟩

set_option maxRecDepth 100000 in
set_option maxHeartbeats 400000 in
theorem new_any (w : World) :
    Calls Tryd.prog 18 #[] w fun e w' => ∃ g, e = .returned (.pointer (some ⟨g, 0, none⟩)) ∧ w.heap.size ≤ g ∧ Blk w' g 48 (hashCells true st0 (List.replicate 64 0) 0) ∧ Below w.heap.size w w' := by
  go_enter Tryd.func18, Tryd.ntmps18
  go_wp2_with (first
    | (go_at_call 29; refine (first_any _).mono ?_; rintro e w1 ⟨rfl, hb1⟩)
    | (refine wpList_run (.build 48 #[(0, .const (.bool true)), (1, .tmp 1)]) rfl rfl (.agg (hashCells true st0 (List.replicate 64 0) 0).toArray) (by kernel_rfl) ?_))
  go_ret
  exact ⟨_, rfl, hb1.size, Blk.new_at rfl, hb1.alloc hb1.size _⟩
end Go.Proofs.YtahjfnnmaalnoaaDoor
