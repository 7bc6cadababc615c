/- The walk of alive: the digest of abc. -/
import Derived.Test.YtahjfnnmaalnoaaDoorHex
namespace Go.Proofs.YtahjfnnmaalnoaaDoor
open Go.RowKit

def abcHex : List UInt8 := [98, 97, 55, 56, 49, 54, 98, 102, 56, 102, 48, 49, 99, 102, 101, 97, 52, 49, 52, 49, 52, 48, 100, 101, 53, 100, 97, 101, 50, 50, 50, 51, 98, 48, 48, 51, 54, 49, 97, 51, 57, 54, 49, 55, 55, 97, 57, 99, 98, 52, 49, 48, 102, 102, 54, 49, 102, 50, 48, 48, 49, 53, 97, 100]
set_option maxRecDepth 100000 in
theorem abc_hex : hexOf (shaOf [97, 98, 99]) = abcHex := by decide +kernel
def nilHex : List UInt8 := [101, 51, 98, 48, 99, 52, 52, 50, 57, 56, 102, 99, 49, 99, 49, 52, 57, 97, 102, 98, 102, 52, 99, 56, 57, 57, 54, 102, 98, 57, 50, 52, 50, 55, 97, 101, 52, 49, 101, 52, 54, 52, 57, 98, 57, 51, 52, 99, 97, 52, 57, 53, 57, 57, 49, 98, 55, 56, 53, 50, 98, 56, 53, 53]
def twoText : List UInt8 := [97, 98, 99, 100, 98, 99, 100, 101, 99, 100, 101, 102, 100, 101, 102, 103, 101, 102, 103, 104, 102, 103, 104, 105, 103, 104, 105, 106, 104, 105, 106, 107, 105, 106, 107, 108, 106, 107, 108, 109, 107, 108, 109, 110, 108, 109, 110, 111, 109, 110, 111, 112, 110, 111, 112, 113]
def twoHex : List UInt8 := [50, 52, 56, 100, 54, 97, 54, 49, 100, 50, 48, 54, 51, 56, 98, 56, 101, 53, 99, 48, 50, 54, 57, 51, 48, 99, 51, 101, 54, 48, 51, 57, 97, 51, 51, 99, 101, 52, 53, 57, 54, 52, 102, 102, 50, 49, 54, 55, 102, 54, 101, 99, 101, 100, 100, 52, 49, 57, 100, 98, 48, 54, 99, 49]
set_option maxRecDepth 100000 in
theorem nil_hex : hexOf (shaOf []) = nilHex := by decide +kernel
set_option maxRecDepth 100000 in
theorem two_hex : hexOf (shaOf twoText) = twoHex := by decide +kernel

theorem shaOf_length (m : List UInt8) : (shaOf m).length = 32 := rfl
/-- A new row that bears the mark of a constant. -/
theorem rd_marked (w : World) (t : TypeId) (l : List UInt8) (m : Nat × Nat) : Rd (w.alloc (.cells (l.map B).toArray t m)) (· < (w.alloc (.cells (l.map B).toArray t m)).heap.size) (some ⟨w.heap.size, 0, none⟩) (l.map B) := fun _ =>
  ⟨_, rfl, by simp, fun j u hu => by rw [addr_add, Nat.zero_add, World.cell?_alloc_mark]; simpa using hu⟩

set_option maxRecDepth 100000 in
set_option maxHeartbeats 1000000 in
theorem alive_any (w : World) (hK : KeysIn w) :
    Calls Tryd.prog 14 #[] w fun e w' => e = .returned (.bool true) ∧ Below w.heap.size w w' := by
  have kc := fun (w : World) (C : Array Value) (n c : Nat) => Lib.run_convert_bytes_const (P := Tryd.prog) w 22 5 C n c Tryd.underlying22 Tryd.underlying5
  go_enter Tryd.func14, Tryd.ntmps14
  go_wp2_with fail
  have hb0 : Below w.heap.size w (w.alloc (.cells (([97, 98, 99] : List UInt8).map B).toArray 5 (3, 4))) := (Below.refl _ _).alloc (Nat.le_refl _) _
  refine (sum_any [97, 98, 99] (some ⟨w.heap.size, 0, none⟩) 3 (w.alloc (.cells (([97, 98, 99] : List UInt8).map B).toArray 5 (3, 4))) (rd_marked w 5 [97, 98, 99] (3, 4)) (by decide) (by decide) (keys_below hK hb0)).mono ?_
  rintro e w1 ⟨rfl, hb1⟩
  have hb1' := hb0.trans (hb1.mono hb0.size)
  clear hb0 hb1 kc
  generalize hsd : shaOf [97, 98, 99] = sd
  have hsl : sd.length = 32 := by rw [← hsd]; rfl
  have hhx := hex_any sd hsl w1
  have hx2 : hexOf sd = abcHex := by rw [← hsd]; exact abc_hex
  rw [hx2] at hhx
  replace hhx := Lib.hid hhx
  clear hsl hx2 hsd
  go_wp2_with (go_at_call 15; refine hhx.out.mono ?_; rintro e w2 ⟨rfl, hb2⟩)
  go_ret
  exact ⟨rfl, hb1'.trans (hb2.mono hb1'.size)⟩

set_option maxRecDepth 100000 in
set_option maxHeartbeats 1000000 in
theorem known_any (w : World) (hK : KeysIn w) :
    Calls Tryd.prog 4 #[] w fun e w' => e = .returned (.bool true) ∧ Below w.heap.size w w' := by
  have hs1 := Lib.hid (sum_any [] none 0 w Rd.nil (by decide) (by decide) hK)
  go_enter Tryd.func4, Tryd.ntmps4
  go_wp2_with fail
  refine hs1.out.mono ?_
  rintro e w1 ⟨rfl, hb1⟩
  clear hs1
  generalize hsd : shaOf [] = sd
  have hsl : sd.length = 32 := by rw [← hsd]; rfl
  have hhx := hex_any sd hsl w1
  have hx2 : hexOf sd = nilHex := by rw [← hsd]; exact nil_hex
  rw [hx2] at hhx
  unfold nilHex at hhx
  replace hhx := Lib.hid hhx
  clear hsl hx2 hsd
  have kc := fun (w : World) (C : Array Value) (n c : Nat) => Lib.run_convert_bytes_const (P := Tryd.prog) w 22 5 C n c Tryd.underlying22 Tryd.underlying5
  go_wp2_with (go_at_call 15; refine hhx.out.mono ?_; rintro e w2 ⟨rfl, hb2⟩)
  have hb2' := hb1.trans (hb2.mono hb1.size)
  clear hb1 hb2 hhx
  have hb0 : Below w.heap.size w (w2.alloc (.cells (twoText.map B).toArray 5 (56, 57))) := hb2'.alloc hb2'.size _
  refine (sum_any twoText (some ⟨w2.heap.size, 0, none⟩) 56 (w2.alloc (.cells (twoText.map B).toArray 5 (56, 57))) (rd_marked w2 5 twoText (56, 57)) (by decide) (by decide) (keys_below hK hb0)).mono ?_
  rintro e w3 ⟨rfl, hb3⟩
  have hb3' := hb0.trans (hb3.mono hb0.size)
  clear hb0 hb2' hb3 kc
  generalize hsd : shaOf twoText = sd2
  have hsl : sd2.length = 32 := by rw [← hsd]; rfl
  have hhx := hex_any sd2 hsl w3
  have hx2 : hexOf sd2 = twoHex := by rw [← hsd]; exact two_hex
  rw [hx2] at hhx
  unfold twoHex at hhx
  replace hhx := Lib.hid hhx
  clear hsl hx2 hsd
  go_wp2_with (go_at_call 15; refine hhx.out.mono ?_; rintro e w4 ⟨rfl, hb4⟩)
  have hb4' := hb3'.trans (hb4.mono hb3'.size)
  clear hb3' hb4 hhx
  refine (alive_any w4 (keys_below hK hb4')).mono ?_
  rintro e w5 ⟨rfl, hb5⟩
  go_wp2
  go_ret
  exact ⟨rfl, hb4'.trans (hb5.mono hb4'.size)⟩
end Go.Proofs.YtahjfnnmaalnoaaDoor
