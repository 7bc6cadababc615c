/- The walk of the reference's Name; letters, case by case. -/
import Derived.Test.YtlenmkemjaaaoaaDoorRfH
namespace Go.Proofs.YtlenmkemjaaaoaaDoor
open Go.RowKit

def letCase (x : Int) (c : UInt8) : Prop :=
  (65 ≤ x ∧ x ≤ 90 ∧ isLet c = true) ∨ (97 ≤ x ∧ x ≤ 122 ∧ isLet c = true) ∨ (48 ≤ x ∧ x ≤ 57 ∧ isLet c = true) ∨ (x = 45 ∧ isLet c = true) ∨ (x = 95 ∧ isLet c = true) ∨ (x = 46 ∧ isLet c = true) ∨ (x = 35 ∧ isLet c = true) ∨ (x = 64 ∧ isLet c = true) ∨ (x = 126 ∧ isLet c = true) ∨
  (isLet c = false ∧ (x ≠ 45 ∧ x ≠ 95 ∧ x ≠ 46 ∧ x ≠ 35 ∧ x ≠ 64 ∧ x ≠ 126) ∧ (x < 48 ∨ (57 < x ∧ x < 65) ∨ (90 < x ∧ x < 97) ∨ 122 < x))
instance (x : Int) (c : UInt8) : Decidable (letCase x c) := by unfold letCase; infer_instance
theorem let_all : ∀ n : Fin 256, letCase (bv (UInt8.ofNat n.1)) (UInt8.ofNat n.1) := by decide +kernel
theorem let_case (c : UInt8) : letCase (bv c) c := by
  have := let_all ⟨c.toNat, c.toNat_lt⟩
  simpa using this
theorem all_take_succ {s : Str} {k : Nat} (hk : k < s.length) (h : (s.take k).all isLet = true) (hc : isLet s[k] = true) : (s.take (k + 1)).all isLet = true := by
  rw [List.take_succ_eq_append_getElem hk, List.all_append, h]
  simp [hc]
theorem nm_bad {s : Str} {k : Nat} (hk : k < s.length) (hc : isLet s[k] = false) : nmOk s = false := by
  have : s.all isLet = false := by
    rw [List.all_eq_false]
    exact ⟨s[k], List.getElem_mem hk, by simp [hc]⟩
  simp [nmOk, this]
theorem nm_end {s : Str} (h : s.all isLet = true) : nmOk s = (decide (1 ≤ s.length) && decide (s.length ≤ 24)) := by simp [nmOk, h]
theorem index_strB (s : Str) (k : Nat) (hk : k < s.length) (w : World) : (Instr.index 9 (.string ⟨s.toArray⟩) (.int .i64 (k : Int))).run Tryd.prog w = .ok (.int .u8 (bv s[k])) w := by
  have h0 : (⟨s.toArray⟩ : ByteArray)[k]? = some s[k] := by
    have hs : k < (⟨s.toArray⟩ : ByteArray).size := by simpa [ByteArray.size] using hk
    rw [getElem?_pos (⟨s.toArray⟩ : ByteArray) k hs]
    rfl
  simp [Instr.index, asIntOf, run_underlying Tryd.underlying9, h0, bv]
theorem strLn (s : Str) : (⟨s.toArray⟩ : ByteArray).size = s.length := by simp [ByteArray.size]
theorem ret_b {a b : Bool} (h : a = b) : Ending.returned (.bool a) = .returned (.bool b) := by rw [h]
set_option maxRecDepth 100000 in
set_option maxHeartbeats 4000000 in
theorem rname_any (s : Str) (w : World) (hs : s.length ≤ 140737488355328) :
    Calls Tryd.prog 53 #[strV s] w fun e w' => e = .returned (.bool (nmOk s)) ∧ w = w' := by
  unfold strV
  have hsl := strLn s
  go_enter Tryd.func53, Tryd.ntmps53
  go_wp2
  go_loopw [3] (fun i wr => ∃ k : Nat, k ≤ s.length ∧ i = .int .i64 k ∧ Hid ((s.take k).all isLet = true) ∧ Hid (w = wr)) (fun i _ => s.length - (intOf i).toNat)
  case atStart => exact ⟨0, Nat.zero_le _, rfl, Lib.hid (by simp), Lib.hid rfl⟩
  case round =>
    obtain ⟨k, hk, rfl, ha, hw⟩ := hrel
    by_cases hlt : k < s.length
    · have hidx := index_strB s k hlt
      have hcase := let_case s[k]
      have b0 := bv_nonneg s[k]
      have b1 := bv_lt s[k]
      obtain ⟨x, hx⟩ : ∃ x, x = bv s[k] := ⟨_, rfl⟩
      rw [← hx] at hidx hcase b0 b1
      clear hx
      unfold letCase at hcase
      rcases hcase with ⟨h1, h2, hL⟩ | ⟨h1, h2, hL⟩ | ⟨h1, h2, hL⟩ | ⟨rfl, hL⟩ | ⟨rfl, hL⟩ | ⟨rfl, hL⟩ | ⟨rfl, hL⟩ | ⟨rfl, hL⟩ | ⟨rfl, hL⟩ | ⟨hL, hn, hr⟩
      case inr.inr.inr.inr.inr.inr.inr.inr.inr =>
        have hbad := Lib.hid (nm_bad hlt hL)
        obtain ⟨n1, n2, n3, n4, n5, n6⟩ := hn
        have m1 : (x != 45) = true := by simpa using n1
        have m2 : (x != 95) = true := by simpa using n2
        have m3 : (x != 46) = true := by simpa using n3
        have m4 : (x != 35) = true := by simpa using n4
        have m5 : (x != 64) = true := by simpa using n5
        have m6 : (x != 126) = true := by simpa using n6
        clear n1 n2 n3 n4 n5 n6 hL
        rcases hr with h | ⟨h, h'⟩ | ⟨h, h'⟩ | h
        · have d1 : decide (65 ≤ x) = false := by simp; omega
          have d2 : decide (97 ≤ x) = false := by simp; omega
          have d3 : decide (48 ≤ x) = false := by simp; omega
          go_wp2
          go_ret
          exact ⟨ret_b hbad.out.symm, hw.out⟩
        · have d1 : decide (65 ≤ x) = false := by simp; omega
          have d2 : decide (97 ≤ x) = false := by simp; omega
          have d3 : decide (48 ≤ x) = true := by simp; omega
          have d4 : decide (x ≤ 57) = false := by simp; omega
          go_wp2
          go_ret
          exact ⟨ret_b hbad.out.symm, hw.out⟩
        · have d1 : decide (65 ≤ x) = true := by simp; omega
          have d2 : decide (x ≤ 90) = false := by simp; omega
          have d3 : decide (97 ≤ x) = false := by simp; omega
          have d4 : decide (48 ≤ x) = true := by simp; omega
          have d5 : decide (x ≤ 57) = false := by simp; omega
          go_wp2
          go_ret
          exact ⟨ret_b hbad.out.symm, hw.out⟩
        · have d1 : decide (65 ≤ x) = true := by simp; omega
          have d2 : decide (x ≤ 90) = false := by simp; omega
          have d3 : decide (97 ≤ x) = true := by simp; omega
          have d4 : decide (x ≤ 122) = false := by simp; omega
          have d5 : decide (48 ≤ x) = true := by simp; omega
          have d6 : decide (x ≤ 57) = false := by simp; omega
          go_wp2
          go_ret
          exact ⟨ret_b hbad.out.symm, hw.out⟩
      case inl =>
        have d1 : decide (65 ≤ x) = true := by simp; omega
        have d2 : decide (x ≤ 90) = true := by simp; omega
        have hnext := Lib.hid (all_take_succ hlt ha.out hL)
        clear hL
        go_wp2
        go_roundw
        case rel => exact ⟨k + 1, by omega, by go_num, hnext, hw⟩
        case measure => simp [intOf]; omega
      case inr.inl =>
        have d1 : decide (65 ≤ x) = true := by simp; omega
        have d2 : decide (x ≤ 90) = false := by simp; omega
        have d3 : decide (97 ≤ x) = true := by simp; omega
        have d4 : decide (x ≤ 122) = true := by simp; omega
        have hnext := Lib.hid (all_take_succ hlt ha.out hL)
        clear hL
        go_wp2
        go_roundw
        case rel => exact ⟨k + 1, by omega, by go_num, hnext, hw⟩
        case measure => simp [intOf]; omega
      case inr.inr.inl =>
        have d1 : decide (65 ≤ x) = false := by simp; omega
        have d3 : decide (97 ≤ x) = false := by simp; omega
        have d5 : decide (48 ≤ x) = true := by simp; omega
        have d6 : decide (x ≤ 57) = true := by simp; omega
        have hnext := Lib.hid (all_take_succ hlt ha.out hL)
        clear hL
        go_wp2
        go_roundw
        case rel => exact ⟨k + 1, by omega, by go_num, hnext, hw⟩
        case measure => simp [intOf]; omega
      all_goals
        have hnext := Lib.hid (all_take_succ hlt ha.out hL)
        clear hL
        go_wp2
        go_roundw
        case rel => exact ⟨k + 1, by omega, by go_num, hnext, hw⟩
        case measure => simp [intOf]; omega
    · obtain rfl : k = s.length := by omega
      have hall : Hid (s.all isLet = true) := Lib.hid (by have := ha.out; rwa [List.take_length] at this)
      have he := Lib.hid (nm_end hall.out)
      by_cases h1 : 0 < s.length
      · have d1 : decide (0 < (s.length : Int)) = true := by simpa using h1
        have e1 : Hid (nmOk s = decide ((s.length : Int) ≤ 24)) := Lib.hid (by rw [he.out, decide_eq_true (show 1 ≤ s.length by omega), Bool.true_and]; simp; omega)
        go_wp2
        go_ret
        exact ⟨ret_b e1.out.symm, hw.out⟩
      · have d1 : decide (0 < (s.length : Int)) = false := decide_eq_false (by omega)
        have e1 : Hid (nmOk s = false) := Lib.hid (by rw [he.out, decide_eq_false (show ¬ 1 ≤ s.length by omega)]; rfl)
        go_wp2
        go_ret
        exact ⟨ret_b e1.out.symm, hw.out⟩
end Go.Proofs.YtlenmkemjaaaoaaDoor
