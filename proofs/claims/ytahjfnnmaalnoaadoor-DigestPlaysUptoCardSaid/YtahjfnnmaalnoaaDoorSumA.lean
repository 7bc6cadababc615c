/- The walks of digest.Sum and digest.Hex. -/
import Derived.Test.YtahjfnnmaalnoaaDoorHsum
namespace Go.Proofs.YtahjfnnmaalnoaaDoor
open Go.RowKit

set_option maxHeartbeats 1000000 in
theorem sum_any (xs : List UInt8) (A : Option Addr) (cap : Nat) (w : World) (hR : Rd w (· < w.heap.size) A (xs.map B)) (hcap : xs.length ≤ cap) (hn : xs.length ≤ 281474976710656) (hK : KeysIn w) :
    Calls Tryd.prog 12 #[.slice A xs.length cap] w fun e w' => e = .returned (.agg ((shaOf xs).map B).toArray) ∧ Below w.heap.size w w' := by
  have hz := (zero_of_info zeros32).1
  go_enter Tryd.func12, Tryd.ntmps12
  go_wp2_with (go_at_call 18; refine (new_any _).mono ?_)
  rintro e w1 ⟨g, rfl, hg, hB1, hb1⟩
  have hs1 := hb1.size
  simp at hs1
  have hH1 := hashIs_new hB1
  have hb1' : Below w.heap.size w w1 := ((Below.refl w.heap.size w).alloc (Nat.le_refl _) _).trans (hb1.mono (by simp))
  have hres : Blk w1 w.heap.size 24 zero32 := (Blk.new_at (w := w) rfl).below hb1 (by simp)
  have hR1 : Rd w1 (· ≠ g) A (xs.map B) := (hR.below hb1').weak (fun b hb hlt => by simp at hg; omega)
  have hw := write_any g [] xs A cap w1 hH1 hR1 hcap (by simp; omega) (keys_below hK hb1')
  simp at hg
  clear hz hb1
  replace hw := Lib.hid hw
  go_wp2_with (go_at_call 19; refine hw.out.mono ?_)
  rintro e w2 ⟨rfl, hH2, hG2⟩
  have hb2 : Below w.heap.size w w2 := hb1'.trans (below_of_grown hG2 (by omega) (by omega))
  have hres2 : Blk w2 w.heap.size 24 zero32 := hres.grown hG2 (by simp; omega)
  have hh := hsum_any g ([] ++ xs) w2 hH2 (by simpa using hn) (keys_below hK hb2)
  rw [List.nil_append] at hh
  replace hh := Lib.hid hh
  go_wp2_with (go_at_call 20; refine hh.out.mono ?_)
  rintro e w3 ⟨rfl, hb3⟩
  go_wp2_with (refine wpList_store_blk rfl 24 (.tmp 2) (.tmp 9) rfl w.heap.size ((shaOf xs).map B) rfl rfl 24 zero32 (hres2.below hb3 hres2.lt) rfl (by kernel_rfl) (all_B _) ?_)
  refine ret_blk Tryd.results12 w.heap.size 24 ((shaOf xs).map B) _ rfl ((hres2.below hb3 hres2.lt).setRow_same _) Tryd.underlying24 rfl (by kernel_rfl) rfl ?_
  exact ⟨rfl, below_setRow (hb2.trans (hb3.mono hb2.size)) (Nat.le_refl _) _⟩
end Go.Proofs.YtahjfnnmaalnoaaDoor
