/- Words of 32 bits and bytes as Go values: each operation of the model on them is the one on Lean's UInt32 and UInt8. -/
import Derived.WalkKit
import Derived.WalkSpells
import Derived.WalkLawsBesides
namespace Go.Proofs.YtlenmkemjaaaoaaDoor
open Go.RowKit

/-- A word's number. (A plain def: the walk does not look behind it.) -/
def wv (x : UInt32) : Int := (x.toNat : Int)
/-- A byte's number. -/
def bv (x : UInt8) : Int := (x.toNat : Int)
/-- A word as a value. -/
abbrev W (x : UInt32) : Value := .int .u32 (wv x)
/-- A byte as a value. -/
abbrev B (x : UInt8) : Value := .int .u8 (bv x)

theorem bv_nonneg (x : UInt8) : 0 ≤ bv x := Int.natCast_nonneg _
theorem bv_lt (x : UInt8) : bv x < 256 := by have := x.toNat_lt; unfold bv; omega
theorem wv_nonneg (x : UInt32) : 0 ≤ wv x := Int.natCast_nonneg _
theorem wv_lt (x : UInt32) : wv x < 4294967296 := by have := x.toNat_lt; unfold wv; omega
theorem bv_inj {x y : UInt8} (h : bv x = bv y) : x = y := UInt8.toNat_inj.1 (by unfold bv at h; omega)
theorem wv_inj {x y : UInt32} (h : wv x = wv y) : x = y := UInt32.toNat_inj.1 (by unfold wv at h; omega)

theorem u32_wrap_eq (n : Nat) : IntKind.u32.wrap (n : Int) = ((n % 4294967296 : Nat) : Int) := by
  simp [IntKind.wrap, IntKind.bits, IntKind.signed]
theorem u8_wrap_eq (n : Nat) : IntKind.u8.wrap (n : Int) = ((n % 256 : Nat) : Int) := by
  simp [IntKind.wrap, IntKind.bits, IntKind.signed]
theorem ofInt32 (x : UInt32) : (BitVec.ofInt 32 (wv x)) = x.toBitVec := by
  apply BitVec.eq_of_toNat_eq
  have := x.toNat_lt
  simp [wv]
theorem ofInt8 (x : UInt8) : (BitVec.ofInt 8 (bv x)) = x.toBitVec := by
  apply BitVec.eq_of_toNat_eq
  have := x.toNat_lt
  simp [bv]

theorem w_xor (x y : UInt32) : bits .xor .u32 (wv x) (wv y) = wv (x ^^^ y) := by
  show IntKind.u32.wrap ((BitVec.ofInt 32 (wv x) ^^^ BitVec.ofInt 32 (wv y)).toNat : Int) = _
  rw [ofInt32, ofInt32, u32_wrap_eq, Nat.mod_eq_of_lt (BitVec.isLt _)]; rfl
theorem w_and (x y : UInt32) : bits .and .u32 (wv x) (wv y) = wv (x &&& y) := by
  show IntKind.u32.wrap ((BitVec.ofInt 32 (wv x) &&& BitVec.ofInt 32 (wv y)).toNat : Int) = _
  rw [ofInt32, ofInt32, u32_wrap_eq, Nat.mod_eq_of_lt (BitVec.isLt _)]; rfl
theorem w_or (x y : UInt32) : bits .or .u32 (wv x) (wv y) = wv (x ||| y) := by
  show IntKind.u32.wrap ((BitVec.ofInt 32 (wv x) ||| BitVec.ofInt 32 (wv y)).toNat : Int) = _
  rw [ofInt32, ofInt32, u32_wrap_eq, Nat.mod_eq_of_lt (BitVec.isLt _)]; rfl
theorem w_not (y : UInt32) : bits .xor .u32 4294967295 (wv y) = wv (~~~ y) := by
  have h : (4294967295 : Int) = wv 4294967295 := by decide
  rw [h, w_xor]
  congr 1
theorem w_not_max (y : UInt32) : bits .xor .u32 IntKind.u32.max (wv y) = wv (~~~ y) := w_not y
theorem w_add (x y : UInt32) : IntKind.u32.wrap (wv x + wv y) = wv (x + y) := by
  unfold wv
  rw [← Int.natCast_add, u32_wrap_eq, UInt32.toNat_add]
theorem w_add_mod (x y : UInt32) : (wv x + wv y) % 4294967296 = wv (x + y) := by
  unfold wv
  rw [← Int.natCast_add, UInt32.toNat_add]; rfl
theorem w_sum5 (d x y k z : UInt32) : (wv d + (wv x + wv y + wv k + wv z)) % 4294967296 = wv (d + (x + y + k + z)) := by simp only [← w_add_mod]; omega
theorem w_sum5' (x y k z u : UInt32) : (wv x + wv y + wv k + wv z + wv u) % 4294967296 = wv (x + y + k + z + u) := by simp only [← w_add_mod]; omega
theorem b_or (x y : UInt8) : bits .or .u8 (bv x) (bv y) = bv (x ||| y) := by
  show IntKind.u8.wrap ((BitVec.ofInt 8 (bv x) ||| BitVec.ofInt 8 (bv y)).toNat : Int) = _
  rw [ofInt8, ofInt8, u8_wrap_eq, Nat.mod_eq_of_lt (BitVec.isLt _)]; rfl
theorem b_and (x y : UInt8) : bits .and .u8 (bv x) (bv y) = bv (x &&& y) := by
  show IntKind.u8.wrap ((BitVec.ofInt 8 (bv x) &&& BitVec.ofInt 8 (bv y)).toNat : Int) = _
  rw [ofInt8, ofInt8, u8_wrap_eq, Nat.mod_eq_of_lt (BitVec.isLt _)]; rfl

/-- A byte as a word. -/
def b2w (x : UInt8) : UInt32 := UInt32.ofNat x.toNat
theorem b2w_toNat (x : UInt8) : (b2w x).toNat = x.toNat := by
  have := x.toNat_lt
  unfold b2w
  simp
/-- A word's lowest byte. -/
def w2b (x : UInt32) : UInt8 := UInt8.ofNat x.toNat
/-- The move to the right. -/
def shr (x : UInt32) (n : Nat) : UInt32 := UInt32.ofNat (x.toNat / 2 ^ n)
/-- The move to the left. -/
def shl (x : UInt32) (n : Nat) : UInt32 := UInt32.ofNat (x.toNat * 2 ^ n)
/-- The turn to the right. -/
def rotr (x : UInt32) (n : Nat) : UInt32 := shr x n ||| shl x (32 - n)
theorem shr_toNat (x : UInt32) (n : Nat) : (shr x n).toNat = x.toNat / 2 ^ n := by
  have := x.toNat_lt
  have h : x.toNat / 2 ^ n ≤ x.toNat := Nat.div_le_self _ _
  unfold shr
  simp; omega
theorem shl_toNat (x : UInt32) (n : Nat) : (shl x n).toNat = x.toNat * 2 ^ n % 4294967296 := by
  unfold shl; simp
theorem w_shr (x : UInt32) (n : Nat) : wv x / (2 : Int) ^ n = wv (shr x n) := by
  unfold wv; rw [shr_toNat]; simp
theorem w_shl_mod (x : UInt32) (n : Nat) : (wv x * (2 : Int) ^ n) % 4294967296 = wv (shl x n) := by
  unfold wv; rw [shl_toNat]; simp
theorem b2w_mod (x : UInt8) : bv x % 4294967296 = wv (b2w x) := by
  have := x.toNat_lt
  unfold bv wv
  rw [b2w_toNat]; omega
theorem w2b_mod (x : UInt32) : wv x % 256 = bv (w2b x) := by
  unfold bv wv w2b
  simp
theorem shl_8 (x : UInt32) : wv x * 256 % 4294967296 = wv (shl x 8) := w_shl_mod x 8
theorem shl_16 (x : UInt32) : wv x * 65536 % 4294967296 = wv (shl x 16) := w_shl_mod x 16
theorem shl_24 (x : UInt32) : wv x * 16777216 % 4294967296 = wv (shl x 24) := w_shl_mod x 24
theorem shr_3 (x : UInt32) : wv x / 8 = wv (shr x 3) := w_shr x 3
theorem shr_8 (x : UInt32) : wv x / 256 = wv (shr x 8) := w_shr x 8
theorem shr_10 (x : UInt32) : wv x / 1024 = wv (shr x 10) := w_shr x 10
theorem shr_16 (x : UInt32) : wv x / 65536 = wv (shr x 16) := w_shr x 16
theorem shr_24 (x : UInt32) : wv x / 16777216 = wv (shr x 24) := w_shr x 24

end Go.Proofs.YtlenmkemjaaaoaaDoor
