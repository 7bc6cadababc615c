/- The walk of DigestOrders. -/
import Derived.Test.YtahjfnnmaalnoaaDoorLess
import Derived.Test.YtahjfnnmaalnoaaDoorBelowQ
import Derived.Test.YtahjfnnmaalnoaaDoorAlive
namespace Go.Proofs.YtahjfnnmaalnoaaDoor
open Go.RowKit

set_option maxRecDepth 100000 in
set_option maxHeartbeats 1000000 in
theorem orders_any (a b : List UInt8) (ha : a.length = 32) (hb : b.length = 32) (w : World) (hK : KeysIn w) :
    Calls Tryd.prog 5 #[.agg (a.map B).toArray, .agg (b.map B).toArray] w fun e w' => e = .returned (.bool true) ∧ Below w.heap.size w w' := by
  have hB1 : Blk ((w.alloc (.cells (a.map B).toArray 24)).alloc (.cells (b.map B).toArray 24)) w.heap.size 24 (a.map B) := (Blk.new_at rfl).alloc _
  have hB2 : Blk ((w.alloc (.cells (a.map B).toArray 24)).alloc (.cells (b.map B).toArray 24)) (w.heap.size + 1) 24 (b.map B) := Blk.new_at (by simp)
  have hbl : Below w.heap.size w ((w.alloc (.cells (a.map B).toArray 24)).alloc (.cells (b.map B).toArray 24)) := ((Below.refl _ _).alloc (Nat.le_refl _) _).alloc (by simp) _
  have hsa : (Tryd.prog.info? 24).map (·.size) = some (a.map B).length := by rw [List.length_map, ha]; kernel_rfl
  have hsb : (Tryd.prog.info? 24).map (·.size) = some (b.map B).length := by rw [List.length_map, hb]; kernel_rfl
  replace hsa := Lib.hid hsa
  replace hsb := Lib.hid hsb
  replace ha := Lib.hid ha
  replace hb := Lib.hid hb
  go_enter Tryd.func5, Tryd.ntmps5
  go_wp2
  generalize (w.alloc (.cells (a.map B).toArray 24)).alloc (.cells (b.map B).toArray 24) = w1 at hB1 hB2 hbl ⊢
  have hK1 := keys_below hK hbl
  haveI := over_nonempty w1
  refine quiet_over (by kernel_rfl) (by kernel_rfl) ?_
  repeat (first
    | (refine wpQuiet_load_part 24 (.tmp 2) rfl rfl w.heap.size 0 rfl 24 (a.map B) (a.map B) [] (fun w hw => ?_) (by simp) _ Tryd.underlying24 rfl hsa.out ?_
       · obtain ⟨s, rfl⟩ := hw
         exact blk_over hB1 s
       go_frame)
    | (refine wpQuiet_load_part 24 (.tmp 3) rfl rfl (w.heap.size + 1) 0 rfl 24 (b.map B) (b.map B) [] (fun w hw => ?_) (by simp) _ Tryd.underlying24 rfl hsb.out ?_
       · obtain ⟨s, rfl⟩ := hw
         exact blk_over hB2 s
       go_frame)
    | go_big_quiet_step (first
        | (go_at_call 16; exact calls_over _ (less_any a b ha.out hb.out _))
        | (go_at_call 17; exact calls_over _ (rless_any a b ha.out hb.out _))
        | (go_at_call 14; exact calls_over _ (alive_any _ (keys_below hK1 (by first | exact Subtype.property _ | assumption))))))
  refine wpQuiet_nil ?_
  rintro _ ⟨s, rfl⟩
  go_wp2
  go_ret
  exact ⟨rfl, hbl.trans (s.2.mono hbl.size)⟩
end Go.Proofs.YtahjfnnmaalnoaaDoor
