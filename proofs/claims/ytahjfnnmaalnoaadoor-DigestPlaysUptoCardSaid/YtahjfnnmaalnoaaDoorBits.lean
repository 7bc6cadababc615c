/- Rotations of 32-bit words: what bits.RotateLeft32, right and turn return. -/
import Derived.Test.YtahjfnnmaalnoaaDoorRows
import Derived.Test.YtahjfnnmaalnoaaDoorWord
namespace Go.Proofs.YtahjfnnmaalnoaaDoor
open Go.RowKit

theorem ret_int {k : IntKind} {a b : Int} (h : a = b) : Ending.returned (.int k a) = .returned (.int k b) := by rw [h]
theorem turn_val (x : UInt32) (k : Nat) :
    bits .or .u32 ((wv x) / 2 ^ k) ((wv x) * 2 ^ (32 - k) % 4294967296) = (wv (rotr x k)) := by
  rw [w_shr, w_shl_mod, w_or, rotr]
theorem or_comm32 (x y : Int) : bits .or .u32 x y = bits .or .u32 y x := by
  show IntKind.u32.wrap ((BitVec.ofInt 32 x ||| BitVec.ofInt 32 y).toNat : Int) = IntKind.u32.wrap ((BitVec.ofInt 32 y ||| BitVec.ofInt 32 x).toNat : Int)
  rw [BitVec.or_comm]
theorem neg31 (k : Nat) (hk : 0 < k) (hk2 : k < 32) : bits .and .u64 (IntKind.u64.wrap (-(k : Int))) 31 = ((32 - k : Nat) : Int) := by
  have : ∀ k : Fin 32, 0 < k.1 → bits .and .u64 (IntKind.u64.wrap (-(k.1 : Int))) 31 = ((32 - k.1 : Nat) : Int) := by decide
  exact this ⟨k, hk2⟩ hk

set_option maxHeartbeats 400000 in
theorem rot_any (x : UInt32) (k : Nat) (w : World) (hk : 0 < k) (hk2 : k < 32) :
    Calls Tryd.prog 34 #[.int .u32 (wv x), .int .i64 (-(k : Int))] w fun e w' => e = .returned (.int .u32 (wv (rotr x k))) ∧ w = w' := by
  have hn := neg31 k hk hk2
  go_enter Tryd.func34, Tryd.ntmps34
  go_wp2
  go_ret
  exact ⟨ret_int (by rw [or_comm32, show 32 - (32 - k) = k by omega, turn_val]), rfl⟩

set_option maxHeartbeats 400000 in
theorem right_any (x : UInt32) (k : Nat) (w : World) (hk : 0 < k) (hk2 : k < 32) :
    Calls Tryd.prog 33 #[.int .u32 (wv x), .int .i64 (k : Int)] w fun e w' => e = .returned (.int .u32 (wv (rotr x k))) ∧ w = w' := by
  go_enter Tryd.func33, Tryd.ntmps33
  go_wp2_with (go_at_call 34; refine (rot_any x k _ hk hk2).mono ?_; rintro e w' ⟨rfl, rfl⟩)
  go_ret
  exact ⟨rfl, rfl⟩

theorem right_int (x : UInt32) (n : Int) (w : World) (hk : 0 < n) (hk2 : n < 32) :
    Calls Tryd.prog 33 #[.int .u32 (wv x), .int .i64 n] w fun e w' => e = .returned (.int .u32 (wv (rotr x n.toNat))) ∧ w = w' := by
  have := right_any x n.toNat w (by omega) (by omega)
  rwa [show ((n.toNat : Nat) : Int) = n by omega] at this

set_option maxHeartbeats 400000 in
theorem turn_any (x : UInt32) (k : Nat) (w : World) (hk2 : k < 32) :
    Calls Tryd.prog 32 #[.int .u32 (wv x), .int .u64 (k : Int)] w fun e w' => e = .returned (.int .u32 (wv (rotr x k))) ∧ w = w' := by
  go_enter Tryd.func32, Tryd.ntmps32
  go_wp2
  go_ret
  exact ⟨ret_int (turn_val x k), rfl⟩
theorem turn_int (x : UInt32) (n : Int) (w : World) (hk : 0 ≤ n) (hk2 : n < 32) :
    Calls Tryd.prog 32 #[.int .u32 (wv x), .int .u64 n] w fun e w' => e = .returned (.int .u32 (wv (rotr x n.toNat))) ∧ w = w' := by
  have := turn_any x n.toNat w (by omega)
  rwa [show ((n.toNat : Nat) : Int) = n by omega] at this
end Go.Proofs.YtahjfnnmaalnoaaDoor
