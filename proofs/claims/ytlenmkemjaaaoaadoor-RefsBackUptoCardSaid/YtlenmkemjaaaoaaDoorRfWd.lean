/- The walk of the reference's word: the place of the next blank or line's end. -/
import Derived.Test.YtlenmkemjaaaoaaDoorRfPp
import Derived.Test.YtlenmkemjaaaoaaDoorRn
namespace Go.Proofs.YtlenmkemjaaaoaaDoor
open Go.RowKit

/-- The next word's end; -1: there is none. -/
def wordI (s : Str) (k : Nat) : Int := match cutW (s.drop k) with | some x => (k : Int) + x.1.length | none => -1
theorem wordI_sep {s : Str} {k : Nat} (hk : k < s.length) (h : isSep s[k] = true) : wordI s k = k := by
  unfold wordI
  rw [List.drop_eq_getElem_cons hk]
  unfold cutW
  rw [if_pos h]
  simp
theorem wordI_step {s : Str} {k : Nat} (hk : k < s.length) (h : isSep s[k] = false) : wordI s k = wordI s (k + 1) := by
  unfold wordI
  rw [List.drop_eq_getElem_cons hk]
  conv => lhs; unfold cutW
  rw [if_neg (by rw [h]; decide)]
  cases cutW (s.drop (k + 1)) with
  | none => rfl
  | some x => simp; omega
theorem wordI_end (s : Str) : wordI s s.length = -1 := by
  unfold wordI
  rw [List.drop_length]
  rfl
theorem bv_is (c d : UInt8) : (bv c == bv d) = (c == d) := by
  by_cases h : c = d
  · subst h; simp
  · have h1 : (c == d) = false := by simpa using h
    rw [h1, beq_eq_false_iff_ne]
    exact fun e => h (bv_inj e)
set_option maxRecDepth 100000 in
set_option maxHeartbeats 4000000 in
theorem word_any (s : Str) (k0 : Nat) (w : World) (hs : s.length ≤ 140737488355328) (h0 : k0 ≤ s.length) :
    Calls Tryd.prog 45 #[strV s, .int .i64 k0] w fun e w' => e = .returned (.int .i64 (wordI s k0)) ∧ w = w' := by
  unfold strV
  have hsl := strLn s
  go_enter Tryd.func45, Tryd.ntmps45
  go_wp2
  go_loopw [5] (fun i wr => ∃ k : Nat, k ≤ s.length ∧ i = .int .i64 k ∧ Hid (wordI s k0 = wordI s k) ∧ Hid (w = wr)) (fun i _ => s.length - (intOf i).toNat)
  case atStart => exact ⟨k0, h0, rfl, Lib.hid rfl, Lib.hid rfl⟩
  case round =>
    obtain ⟨k, hk, rfl, ha, hw⟩ := hrel
    by_cases hlt : k < s.length
    · have hidx := index_strB s k hlt
      have h32 := bv_is s[k] 32
      have h10 := bv_is s[k] 10
      have hsep := wordI_sep hlt
      have hstep := wordI_step hlt
      obtain ⟨c, hc⟩ : ∃ c, c = s[k] := ⟨_, rfl⟩
      rw [← hc] at hidx h32 h10 hsep hstep
      clear hc
      obtain ⟨x, hx⟩ : ∃ x, x = bv c := ⟨_, rfl⟩
      rw [← hx] at hidx h32 h10
      rw [show bv 32 = 32 from rfl] at h32
      rw [show bv 10 = 10 from rfl] at h10
      clear hx
      have hk0 : k0 ≤ s.length := h0
      cases d32 : (c == 32) with
      | true =>
        rw [d32] at h32
        have hres : Hid (wordI s k0 = k) := Lib.hid (by rw [ha.out, hsep (by unfold isSep; rw [d32]; rfl)])
        clear hsep hstep ha d32 h10
        go_wp2
        go_ret
        exact ⟨ret_m hres.out.symm, hw.out⟩
      | false =>
        rw [d32] at h32
        cases d10 : (c == 10) with
        | true =>
          rw [d10] at h10
          have hres : Hid (wordI s k0 = k) := Lib.hid (by rw [ha.out, hsep (by unfold isSep; rw [d32, d10]; rfl)])
          clear hsep hstep ha d32 d10
          go_wp2
          go_ret
          exact ⟨ret_m hres.out.symm, hw.out⟩
        | false =>
          rw [d10] at h10
          have hres : Hid (wordI s k0 = wordI s (k + 1)) := Lib.hid (by rw [ha.out, hstep (by unfold isSep; rw [d32, d10]; rfl)])
          clear hsep hstep ha d32 d10
          go_wp2
          go_roundw
          case rel => exact ⟨k + 1, by omega, by go_num, hres, hw⟩
          case measure => simp [intOf]; omega
    · obtain rfl : k = s.length := by omega
      have hres : Hid (wordI s k0 = -1) := Lib.hid (by rw [ha.out, wordI_end])
      clear ha
      go_wp2
      go_ret
      exact ⟨ret_m hres.out.symm, hw.out⟩
end Go.Proofs.YtlenmkemjaaaoaaDoor
