/- The walk of the reference's word: eight digits to the base 16 as a word. -/
import Derived.Test.YtahjfnnmaalnoaaDoorParse
namespace Go.Proofs.YtahjfnnmaalnoaaDoor
open Go.RowKit

def wordTo (l : List UInt8) (i : Nat) : Nat → UInt32
  | 0 => 0
  | n + 1 => 16 * wordTo l i n + UInt32.ofNat (digitV (l.getD (8 * i + n) 0))
theorem word_step (x : UInt32) (n : Nat) (hn : n ≤ 16) : (16 * wv x + (n : Int)) % 4294967296 = wv (16 * x + UInt32.ofNat n) := by
  unfold wv
  rw [UInt32.toNat_add, UInt32.toNat_mul]
  have h1 : (UInt32.ofNat n).toNat = n := by simp; omega
  rw [h1]
  simp
theorem word_step' (x : UInt32) (n : Nat) (hn : n ≤ 16) : ((16 * wv x) % 4294967296 + (n : Int)) % 4294967296 = wv (16 * x + UInt32.ofNat n) := by
  rw [← word_step x n hn]; omega
set_option maxRecDepth 100000 in
set_option maxHeartbeats 1000000 in
theorem rword_any (l : List UInt8) (i : Nat) (hi : 8 * i + 8 ≤ l.length) (hl : l.length ≤ 1024) (w : World) :
    Calls Tryd.prog 26 #[.string ⟨l.toArray⟩, .int .i64 (i : Int)] w fun e w' => e = .returned (W (wordTo l i 8)) ∧ w = w' := by
  have hsz : (⟨l.toArray⟩ : ByteArray).size = l.length := by simp [ByteArray.size]
  obtain ⟨n, hn⟩ : ∃ n, n = l.length := ⟨_, rfl⟩
  rw [← hn] at hsz hi hl
  replace hn := Lib.hid hn
  go_enter Tryd.func26, Tryd.ntmps26
  go_wp2
  go_loopw [5, 6] (fun x j wr => ∃ k : Nat, k ≤ 8 ∧ j = .int .i64 ((8 * i + k : Nat) : Int) ∧ x = W (wordTo l i k) ∧ w = wr) (fun _ j _ => 8 * i + 8 - (intOf j).toNat)
  case atStart => exact ⟨0, by omega, by go_num, rfl, rfl⟩
  case round =>
    obtain ⟨k, hk, rfl, rfl, hb⟩ := hrel
    by_cases hlt : k < 8
    · obtain ⟨m, hm⟩ : ∃ m, m = 8 * i + k := ⟨_, rfl⟩
      have hml : m < l.length := by rw [← hn.out]; omega
      rw [← hm]
      have hlt2 : m < 8 * i + 8 := by omega
      obtain ⟨c, hc⟩ : ∃ c, c = l.getD m 0 := ⟨_, rfl⟩
      have hidx := index_str l m hml
      rw [← hc] at hidx
      obtain ⟨n2, hn2⟩ : ∃ n2, n2 = digitV c := ⟨_, rfl⟩
      have hdig := digit_any c
      rw [← hn2] at hdig
      have hle : n2 ≤ 16 := by rw [hn2]; exact digitV_le c
      obtain ⟨x, hx⟩ : ∃ x, x = wordTo l i k := ⟨_, rfl⟩
      rw [← hx]
      have hst := word_step x n2 hle
      have hst' := word_step' x n2 hle
      replace hdig := Lib.hid hdig
      replace hn2 := Lib.hid hn2
      replace hc := Lib.hid hc
      replace hx := Lib.hid hx
      replace hm := Lib.hid hm
      replace hst := Lib.hid hst
      replace hst' := Lib.hid hst'
      go_wp2_with (go_at_call 31; refine (hdig.out _).mono ?_; rintro e w1 ⟨rfl, rfl⟩)
      go_roundw
      case rel =>
        refine ⟨k + 1, by omega, ?_, ?_, hb⟩
        · rw [hm.out]; go_num
        · show _ = W (16 * wordTo l i k + UInt32.ofNat (digitV (l.getD (8 * i + k) 0)))
          rw [← hx.out, ← hm.out, ← hc.out, ← hn2.out, hst'.out]
      case measure => simp [intOf]; omega
    · obtain rfl : k = 8 := by omega
      go_wp2
      go_ret
      exact ⟨rfl, hb⟩

def wordsL : List UInt8 := ("428a2f9871374491b5c0fbcfe9b5dba53956c25b59f111f1923f82a4ab1c5ed5d807aa9812835b01243185be550c7dc372be5d7480deb1fe9bdc06a7c19bf174e49b69c1efbe47860fc19dc6240ca1cc2de92c6f4a7484aa5cb0a9dc76f988da983e5152a831c66db00327c8bf597fc7c6e00bf3d5a7914706ca63511429296727b70a852e1b21384d2c6dfc53380d13650a7354766a0abb81c2c92e92722c85a2bfe8a1a81a664bc24b8b70c76c51a3d192e819d6990624f40e3585106aa07019a4c1161e376c082748774c34b0bcb5391c0cb34ed8aa4a5b9cca4f682e6ff3748f82ee78a5636f84c878148cc7020890befffaa4506cebbef9a3f7c67178f2").toUTF8.data.toList
def beginL : List UInt8 := ("6a09e667bb67ae853c6ef372a54ff53a510e527f9b05688c1f83d9ab5be0cd19").toUTF8.data.toList
theorem words_all : ∀ i : Fin 64, wordTo wordsL i.1 8 = keysL.getD i.1 0 := by decide +kernel
theorem begin_all : ∀ i : Fin 8, wordTo beginL i.1 8 = st0.list.getD i.1 0 := by decide +kernel
theorem words_len : wordsL.length = 512 := by decide +kernel
theorem begin_len : beginL.length = 64 := by decide +kernel
end Go.Proofs.YtahjfnnmaalnoaaDoor
