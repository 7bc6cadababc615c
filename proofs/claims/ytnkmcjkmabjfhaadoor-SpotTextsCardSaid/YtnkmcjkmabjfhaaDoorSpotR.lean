/- The walks of the reference's number, digits, Text and Parse. -/
import Derived.Test.YtnkmcjkmabjfhaaDoorSpotN
import Derived.Test.YtnkmcjkmabjfhaaDoorConv
import Derived.Deep.RegionWith
import Derived.Deep.DrawnRows
namespace Go.Proofs.YtnkmcjkmabjfhaaDoor
open Go.RowKit

theorem allDig_take_succ (l : List UInt8) (k : Nat) (h : k < l.length) (h1 : allDig (l.take k) = true) (h2 : isDig (l.getD k 0) = true) : allDig (l.take (k + 1)) = true := by
  rw [List.take_succ_eq_append_getElem h]
  unfold allDig at h1 ⊢
  rw [List.all_append, h1]
  rw [List.getD_eq_getElem?_getD, List.getElem?_eq_getElem h] at h2
  simpa using h2
theorem valN_take_succ (l : List UInt8) (k : Nat) (h : k < l.length) : valN (l.take (k + 1)) = 10 * valN (l.take k) + ((l.getD k 0).toNat - 48) := by
  rw [List.take_succ_eq_append_getElem h, valN_snoc, List.getD_eq_getElem?_getD, List.getElem?_eq_getElem h]
  rfl
theorem not_dig_none (l : List UInt8) (k : Nat) (h : k < l.length) (h2 : isDig (l.getD k 0) = false) : numS l = none := numS_none_of fun n _ e => by
  have := dec_all n
  rw [← e] at this
  unfold allDig at this
  have h3 := List.all_eq_true.1 this (l.getD k 0) (by rw [List.getD_eq_getElem?_getD, List.getElem?_eq_getElem h]; exact List.getElem_mem h)
  rw [h2] at h3; cases h3
theorem big_none (l : List UInt8) (k : Nat) (h : 1125899906842624 < valN (l.take k)) : numS l = none := numS_none_of fun n hn e => by
  have h1 := valN_take l k
  have h2 := dec_val n
  rw [← e] at h2
  omega
set_option maxHeartbeats 1000000 in
theorem rnumber_any (l : List UInt8) (hl : l.length ≤ 140737488351300) (w : World) :
    Calls Tryd.prog 38 #[.string ⟨l.toArray⟩] w fun e w' => (∃ n : Nat, e = .returned (.tuple #[.int .i64 (n : Int), .bool (numS l).isSome]) ∧ ∀ m, numS l = some m → n = m) ∧ w = w' := by
  have hsz : (⟨l.toArray⟩ : ByteArray).size = l.length := by simp [ByteArray.size]
  obtain ⟨n, hn⟩ : ∃ n, n = l.length := ⟨_, rfl⟩
  rw [← hn] at hsz hl
  replace hn := Lib.hid hn
  go_enter Tryd.func38, Tryd.ntmps38
  go_wp2
  go_loopw [5, 4] (fun i c wr => ∃ k : Nat, k ≤ n ∧ i = .int .i64 (k : Int) ∧ c = .int .i64 (valN (l.take k) : Int) ∧ allDig (l.take k) = true ∧ valN (l.take k) ≤ 11258999068426249 ∧ w = wr) (fun i _ _ => n - (intOf i).toNat)
  case atStart => exact ⟨0, Nat.zero_le _, rfl, rfl, rfl, by simp [valN, valFrom], rfl⟩
  case round =>
    obtain ⟨k, hk, rfl, rfl, had, hbd, hw⟩ := hrel
    replace had := Lib.hid had
    by_cases hlt : k < n
    · have hkl : k < l.length := by rw [← hn.out]; exact hlt
      have hidx := index_str l k hkl
      have hvs := Lib.hid (valN_take_succ l k hkl)
      have hds := Lib.hid (allDig_take_succ l k hkl had.out)
      have hnd := Lib.hid (not_dig_none l k hkl)
      have hbn := Lib.hid (big_none l k)
      obtain ⟨c, hc⟩ : ∃ c, c = l.getD k 0 := ⟨_, rfl⟩
      rw [← hc] at hidx hvs hds hnd
      obtain ⟨v, hv⟩ : ∃ v, v = valN (l.take k) := ⟨_, rfl⟩
      rw [← hv] at hbd hvs hbn ⊢
      replace hc := Lib.hid hc
      replace hv := Lib.hid hv
      have hc0 := bv_nonneg c
      by_cases hd : isDig c = true
      · have hd2 : 48 ≤ bv c ∧ bv c ≤ 57 := by
          unfold isDig at hd
          have := of_decide_eq_true hd
          unfold bv; omega
        have hcv : bv c = (c.toNat : Int) := rfl
        replace hcv := Lib.hid hcv
        by_cases hbig : 1125899906842624 < v
        · have hz := Lib.hid (hbn.out hbig)
          clear hd
          obtain ⟨hd3, hd4⟩ := hd2
          go_wp2
          go_ret2
          exact ⟨⟨0, by rw [hz.out]; rfl, fun m hm => by rw [hz.out] at hm; cases hm⟩, hw⟩
        · have hds2 := hds.out hd
          replace hds2 := Lib.hid hds2
          clear hd
          obtain ⟨hd3, hd4⟩ := hd2
          go_wp2
          go_roundw
          case rel =>
            refine ⟨k + 1, by omega, by go_num, ?_, hds2.out, ?_, hw⟩
            · rw [hvs.out]
              have := hcv.out
              congr 1
              omega
            · rw [hvs.out]
              have := hcv.out
              omega
          case measure => simp [intOf]; omega
      · have hz := Lib.hid (hnd.out (by simpa using hd))
        have hd2 : bv c < 48 ∨ (48 ≤ bv c ∧ 57 < bv c) := by
          unfold isDig at hd
          have : ¬ (48 ≤ c.toNat ∧ c.toNat ≤ 57) := fun h => hd (decide_eq_true h)
          unfold bv; omega
        clear hd
        rcases hd2 with hd2 | ⟨hd2, hd3⟩
        all_goals
          go_wp2
          go_ret2
          exact ⟨⟨0, by rw [hz.out]; rfl, fun m hm => by rw [hz.out] at hm; cases hm⟩, hw⟩
    · have hkn : k = n := by omega
      rw [hkn, hn.out, List.take_length] at had hbd
      have hge : n ≤ k := by omega
      have hvl : valN (l.take k) = valN l := by rw [hkn, hn.out, List.take_length]
      rw [hvl]
      clear hvl hlt hkn
      obtain ⟨v, hv⟩ : ∃ v, v = valN l := ⟨_, rfl⟩
      rw [← hv] at hbd ⊢
      have hbn : 1125899906842624 < v → numS l = none := by
        have := big_none l l.length
        rw [List.take_length, ← hv] at this
        exact this
      by_cases hn0 : n = 0
      · have hz : numS l = none := numS_none_of fun m _ e => dec_ne m (by rw [← e]; exact List.eq_nil_of_length_eq_zero (by rw [← hn.out]; exact hn0))
        replace hz := Lib.hid hz
        have hn1 : n ≤ 0 := by omega
        clear hn0 hbn
        replace hv := Lib.hid hv
        go_wp2
        go_ret2
        exact ⟨⟨v, by rw [hz.out]; rfl, fun m hm => by rw [hz.out] at hm; cases hm⟩, by first | exact hw | rfl⟩
      · have hn1 : 0 < n := by omega
        have hidx : ∀ w, (Instr.index 9 (.string ⟨l.toArray⟩) (.int .i64 0)).run Tryd.prog w = .ok (B (l.getD 0 0)) w := fun w => index_str l 0 (by rw [← hn.out]; exact hn1) w
        have hcan := fun h => dec_of_canon l.length l rfl (fun e => hn0 (by rw [hn.out, e]; rfl)) had.out h
        have hhd : l.head? = some (l.getD 0 0) := by
          cases l with
          | nil => exact absurd hn.out hn0
          | cons c l => rfl
        rw [hhd] at hcan
        obtain ⟨c, hc⟩ : ∃ c, c = l.getD 0 0 := ⟨_, rfl⟩
        rw [← hc] at hidx hcan hhd
        clear hn0
        by_cases hbig : 1125899906842624 < v
        · have hz := Lib.hid (hbn hbig)
          clear hbn hcan hhd hc
          replace hv := Lib.hid hv
          go_wp2
          go_ret2
          exact ⟨⟨v, by rw [hz.out]; rfl, fun m hm => by rw [hz.out] at hm; cases hm⟩, by first | exact hw | rfl⟩
        · have hsome : c ≠ 48 ∨ n = 1 → numS l = some v := by
            intro h
            have h2 := hcan (by
              rcases h with h | h
              · left; intro e; injection e with e; exact h e
              · right; rw [← hn.out]; exact h)
            unfold numS
            rw [← hv, if_pos ⟨by rw [hv]; exact h2, by omega⟩]
          have hnone : c = 48 → n ≠ 1 → numS l = none := by
            intro h1 h2
            refine numS_none_of fun m hm e => ?_
            by_cases hm0 : m = 0
            · subst hm0
              apply h2
              rw [hn.out, e, dec_small (by omega)]; rfl
            · have := dec_head m (by omega)
              rw [← e, hhd, h1] at this
              exact this rfl
          by_cases hc48 : c = 48
          · have hcb : (bv c != 48) = false := by rw [hc48]; rfl
            by_cases hn2 : n = 1
            · have hz := Lib.hid (hsome (.inr hn2))
              have hn3 : ((n : Int) == 1) = true := by rw [hn2]; rfl
              clear hsome hnone hbn hcan hhd hc hc48 hn2
              replace hv := Lib.hid hv
              go_wp2
              go_ret2
              exact ⟨⟨v, by rw [hz.out]; rfl, fun m hm => by rw [hz.out] at hm; injection hm⟩, by first | exact hw | rfl⟩
            · have hz := Lib.hid (hnone hc48 hn2)
              have hn3 : ((n : Int) == 1) = false := by rw [beq_eq_false_iff_ne]; omega
              clear hsome hnone hbn hcan hhd hc hc48 hn2
              replace hv := Lib.hid hv
              go_wp2
              go_ret2
              exact ⟨⟨v, by rw [hz.out]; rfl, fun m hm => by rw [hz.out] at hm; cases hm⟩, by first | exact hw | rfl⟩
          · have hcb : (bv c != 48) = true := by rw [bne_iff_ne]; intro h2; exact hc48 (bv_inj (y := 48) h2)
            have hz := Lib.hid (hsome (.inl hc48))
            clear hsome hnone hbn hcan hhd hc hc48
            replace hv := Lib.hid hv
            go_wp2
            go_ret2
            exact ⟨⟨v, by rw [hz.out]; rfl, fun m hm => by rw [hz.out] at hm; injection hm⟩, by first | exact hw | rfl⟩
end Go.Proofs.YtnkmcjkmabjfhaaDoor
