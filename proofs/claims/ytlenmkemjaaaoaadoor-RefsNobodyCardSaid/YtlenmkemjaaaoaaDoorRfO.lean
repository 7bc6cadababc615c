/- The walk of commit.Name. -/
import Derived.Test.YtlenmkemjaaaoaaDoorRfN
import Derived.Test.YtlenmkemjaaaoaaDoorShelf
namespace Go.Proofs.YtlenmkemjaaaoaaDoor
open Go.RowKit

def letters : List UInt8 := [65, 66, 67, 68, 69, 70, 71, 72, 73, 74, 75, 76, 77, 78, 79, 80, 81, 82, 83, 84, 85, 86, 87, 88, 89, 90, 97, 98, 99, 100, 101, 102, 103, 104, 105, 106, 107, 108, 109, 110, 111, 112, 113, 114, 115, 116, 117, 118, 119, 120, 121, 122, 48, 49, 50, 51, 52, 53, 54, 55, 56, 57, 45, 95, 46, 35, 64, 126]
theorem letIx_all : ∀ n : Fin 256, decide (Lib.indexByte letters (UInt8.ofNat n.1) < 0) = !isLet (UInt8.ofNat n.1) := by decide +kernel
theorem letIx (c : UInt8) : decide (Lib.indexByte letters c < 0) = !isLet c := by
  have := letIx_all ⟨c.toNat, c.toNat_lt⟩
  simpa using this
theorem ixb_any (c : UInt8) (w : World) : Calls Tryd.prog 68 #[.string ⟨letters.toArray⟩, .int .u8 (bv c)] w fun e w' => e = .returned (.int .i64 (Lib.indexByte letters c)) ∧ w = w' := by
  have h := Tryd.strings_IndexByte ⟨letters.toArray⟩ (bv c) w
  have e : (bv c).toNat.toUInt8 = c := by unfold bv; simp
  rw [e] at h
  exact h.mono fun e w' ⟨h1, h2⟩ => ⟨h1, h2.symm⟩
set_option maxRecDepth 100000 in
set_option maxHeartbeats 4000000 in
theorem nm_any (s : Str) (w : World) (hs : s.length ≤ 140737488355328) :
    Calls Tryd.prog 39 #[strV s] w fun e w' => e = .returned (.bool (nmOk s)) ∧ w = w' := by
  unfold strV
  have hsl := strLn s
  go_enter Tryd.func39, Tryd.ntmps39
  go_wp2
  go_loopw [6] (fun i wr => ∃ k : Nat, k ≤ s.length ∧ i = .int .i64 k ∧ Hid ((s.take k).all isLet = true) ∧ Hid (w = wr)) (fun i _ => s.length - (intOf i).toNat)
  case atStart => exact ⟨0, Nat.zero_le _, rfl, Lib.hid (by simp), Lib.hid rfl⟩
  case round =>
    obtain ⟨k, hk, rfl, ha, hw⟩ := hrel
    by_cases hlt : k < s.length
    · have hidx := index_strB s k hlt
      have hix := letIx s[k]
      have hc := ixb_any s[k]
      obtain ⟨x, hx⟩ : ∃ x, x = bv s[k] := ⟨_, rfl⟩
      obtain ⟨y, hy⟩ : ∃ y, y = Lib.indexByte letters s[k] := ⟨_, rfl⟩
      rw [← hx] at hidx hc
      rw [← hy] at hix hc
      clear hx hy
      replace hc := Lib.hid hc
      cases hL : isLet s[k] with
      | true =>
        rw [hL] at hix
        have d1 : decide (y < 0) = false := hix
        have hnext := Lib.hid (all_take_succ hlt ha.out hL)
        clear hL hix
        go_wp2_with ((go_at_call 68; refine (hc.out _).mono ?_; rintro e w' ⟨rfl, rfl⟩))
        go_roundw
        case rel => exact ⟨k + 1, by omega, by go_num, hnext, hw⟩
        case measure => simp [intOf]; omega
      | false =>
        rw [hL] at hix
        have d1 : decide (y < 0) = true := hix
        have hbad := Lib.hid (nm_bad hlt hL)
        clear hL hix
        go_wp2_with ((go_at_call 68; refine (hc.out _).mono ?_; rintro e w' ⟨rfl, rfl⟩))
        go_ret
        exact ⟨ret_b hbad.out.symm, hw.out⟩
    · obtain rfl : k = s.length := by omega
      have hall : Hid (s.all isLet = true) := Lib.hid (by have := ha.out; rwa [List.take_length] at this)
      have he := Lib.hid (nm_end hall.out)
      by_cases h1 : 1 ≤ s.length
      · have d1 : decide (1 ≤ (s.length : Int)) = true := decide_eq_true (by omega)
        have e1 : Hid (nmOk s = decide ((s.length : Int) ≤ 24)) := Lib.hid (by rw [he.out, decide_eq_true h1, Bool.true_and]; simp; omega)
        go_wp2
        go_ret
        exact ⟨ret_b e1.out.symm, hw.out⟩
      · have d1 : decide (1 ≤ (s.length : Int)) = false := decide_eq_false (by omega)
        have e1 : Hid (nmOk s = false) := Lib.hid (by rw [he.out, decide_eq_false h1]; rfl)
        go_wp2
        go_ret
        exact ⟨ret_b e1.out.symm, hw.out⟩
end Go.Proofs.YtlenmkemjaaaoaaDoor
