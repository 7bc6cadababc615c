/- The walk of the reference's whole: the bytes with what comes behind them. -/
import Derived.Test.YtahjfnnmaalnoaaDoorRMixA
namespace Go.Proofs.YtahjfnnmaalnoaaDoor
open Go.RowKit

/-- A row of bytes of the call's own. -/
def RB (w : World) (l : List UInt8) (v : Value) (wr : World) : Prop :=
  wr.ownsRow w.heap.size 5 1 v l.length (l.map B) ∧ Below w.heap.size w wr
theorem own_empty (w : World) (t : TypeId) : (w.alloc (.cells #[] t)).ownsRow w.heap.size t 1 (.slice (some ⟨w.heap.size, 0, none⟩) 0 0) 0 [] :=
  ⟨rfl, .inr ⟨w.heap.size, 0, #[], rfl, Nat.le_refl _, heap_alloc_new w _, Nat.le_refl _, Nat.zero_le _, rfl, rfl⟩⟩
theorem rb_empty (w : World) : RB w [] (.slice (some ⟨w.heap.size, 0, none⟩) 0 0) (w.alloc (.cells #[] 5)) :=
  ⟨own_empty w _, (Below.refl _ _).alloc (Nat.le_refl _) _⟩
/-- A list more. -/
theorem rb_more {w wr w' : World} {l xs : List UInt8} {v v' : Value} (h : RB w l v wr) (hown : w'.ownsRow w.heap.size 5 1 v' (l.length + xs.length) (l.map B ++ xs.map B)) (hg : wr.grownBy w' v.ownBlock) : RB w (l ++ xs) v' w' := by
  refine ⟨by simpa using hown, ?_⟩
  exact h.2.trans (own_below h.1 hg h.2.size)
theorem rb_grow {w wr w' : World} {l : List UInt8} {v v' : Value} {o : Obj} (h : RB w l v wr) {x : UInt8} (hown : w'.ownsRow w.heap.size 5 1 v' (l.length + 1) (l.map B ++ [B x])) (hg : (wr.alloc o).grownBy w' v.ownBlock) : RB w (l ++ [x]) v' w' := by
  refine ⟨by simpa using hown, ?_⟩
  have h1 : Below w.heap.size w (wr.alloc o) := h.2.alloc h.2.size o
  exact h1.trans (own_below (own_alloc h.1 o) hg h1.size)
theorem rb_form {w wr : World} {l : List UInt8} {v : Value} (h : RB w l v wr) : ∃ A cap, v = .slice A l.length cap ∧ l.length ≤ cap := by
  obtain ⟨A, cap, e, h1, _⟩ := own_form h.1
  exact ⟨A, cap, e, h1⟩
/-- What has been put together behind z bytes 0. -/
def padA (xs : List UInt8) (z : Nat) : List UInt8 := xs ++ 128 :: List.replicate z 0
theorem padA_len (xs : List UInt8) (z : Nat) : (padA xs z).length = xs.length + 1 + z := by simp [padA]; omega
theorem padA_succ (xs : List UInt8) (z : Nat) : padA xs (z + 1) = padA xs z ++ [0] := by simp [padA, List.replicate_succ']
theorem padTo_zero (xs : List UInt8) : xs ++ padTo xs.length 0 = padA xs (padZ xs.length) := by simp [padTo, padA]
attribute [local go_sem] lenByte_eq
set_option maxRecDepth 100000 in
set_option maxHeartbeats 2000000 in
theorem whole_any (xs : List UInt8) (A : Option Addr) (cap : Nat) (w : World) (hR : Rd w (· < w.heap.size) A (xs.map B)) (hn : xs.length ≤ 140737488351240) :
    Calls Tryd.prog 27 #[.slice A xs.length cap] w fun e w' => ∃ v, e = .returned v ∧ RB w (xs ++ padEnd xs.length) v w' := by
  obtain ⟨n, hnn⟩ : ∃ n, n = xs.length := ⟨_, rfl⟩
  rw [← hnn] at hn ⊢
  replace hnn := Lib.hid hnn
  have hR1 := hR.below (rb_empty w).2
  go_enter Tryd.func27, Tryd.ntmps27
  go_wp2_with (first
    | (at_builtin
       refine wpList_append_rd _ rfl (.tmp 6) (.tmp 7) 22 rfl w.heap.size 5 (B 0) 1 1 Tryd.underlying22 info8 (.slice (some ⟨w.heap.size, 0, none⟩) 0 0) 0 [] rfl (own_empty w _) (· < w.heap.size) A n cap (xs.map B) rfl (by rw [List.length_map, hnn.out]; simp) hR1 (all_B _) (by unfold maxLen; omega) (by omega) (by simp) ?_
       intro v1 w1 hown1 hg1 _
       have hM1 : RB w xs v1 w1 := by
         have := rb_more (xs := xs) (rb_empty w) (by simpa [← hnn.out] using hown1) hg1
         simpa using this
       have hM1o : w1.ownsRow w.heap.size 5 1 v1 n (xs.map B) := by have := hM1.1; rwa [← hnn.out] at this
       obtain ⟨A1, cap1, rfl, hc1, _⟩ := own_form hM1o
       have hs1 := hM1.2.size
       clear hown1 hg1 hR1)
    | (at_builtin
       refine wpList_append_rd _ rfl (.tmp 8) (.tmp 9) 22 rfl w.heap.size 5 (B 0) 1 1 Tryd.underlying22 info8 (.slice A1 n cap1) n (xs.map B) rfl (own_alloc hM1o _) (· = w1.heap.size) (some ⟨w1.heap.size, 0, none⟩) 1 1 [B 128] rfl rfl (Rd.of_blk (cs := [B 128]) (r := []) (Blk.new_at rfl) rfl rfl) (by simp [Value.oneCell']) (by unfold maxLen; omega) (by omega) (by simp; omega) ?_
       intro v2 w2 hown2 hg2 _
       have hM2 : RB w (padA xs 0) v2 w2 := rb_grow hM1 (by simpa [← hnn.out] using hown2) hg2
       clear hown2 hg2 hM1 hM1o hs1))
  go_loopw [3] (fun v wr => ∃ z, z ≤ padZ n ∧ RB w (padA xs z) v wr) (fun v _ => n + 200 - lenOf v)
  case atStart => exact ⟨0, Nat.zero_le _, hM2⟩
  case round =>
    clear hM2
    obtain ⟨z, hz, hM⟩ := hrel
    obtain ⟨ys, hys⟩ : ∃ ys, ys = padA xs z := ⟨_, rfl⟩
    have hyl : ys.length = n + 1 + z := by rw [hys, padA_len, hnn.out]
    rw [← hys] at hM
    obtain ⟨A2, cap2, rfl, hc2⟩ := rb_form hM
    have hpz : padZ n < 64 := by unfold padZ; omega
    have hyb : ys.length ≤ 140737488351340 := by omega
    have hyc : n + 1 ≤ ys.length ∧ ys.length ≤ n + 64 := by omega
    have hs2 := hM.2.size
    by_cases hlt : z < padZ n
    · have htb : ((ys.length : Int) % 64 != 56) = true := by
        rw [bne_iff_ne, hyl]; unfold padZ at hlt; omega
      replace hyl := Lib.hid hyl
      replace hys := Lib.hid hys
      go_wp2_with (at_builtin; refine wpList_append_rd _ rfl (.tmp 15) (.tmp 16) 22 rfl w.heap.size 5 (B 0) 1 1 Tryd.underlying22 info8 (.slice A2 ys.length cap2) ys.length (ys.map B) rfl (own_alloc hM.1 _) (· = wr.heap.size) (some ⟨wr.heap.size, 0, none⟩) 1 1 [B 0] rfl rfl (Rd.of_blk (Blk.new_at rfl) rfl rfl) (by simp [Value.oneCell']) (by unfold maxLen; omega) (by omega) (by simp; omega) ?_; intro v' w' hown' hg' _)
      go_roundw
      case rel =>
        refine ⟨z + 1, hlt, ?_⟩
        rw [padA_succ, ← hys.out]
        exact rb_grow hM hown' hg'
      case measure =>
        obtain ⟨A', cap', rfl, _, _⟩ := own_form hown'
        simp [lenOf]; omega
    · have htb : ((ys.length : Int) % 64 != 56) = false := by
        rw [bne_eq_false_iff_eq, hyl]; unfold padZ at hlt hz; omega
      have hyp : ys = xs ++ padTo n 0 := by
        have e := padTo_zero xs
        rw [← hnn.out] at e
        rw [e, hys, show z = padZ n by omega]
      obtain ⟨w3, rfl⟩ : ∃ w3 : World, w3 = wr := ⟨_, rfl⟩
      replace hyl := Lib.hid hyl
      replace hys := Lib.hid hys
      replace hyp := Lib.hid hyp
      go_wp2
      go_loopw [5, 3] (fun i v wr => ∃ k : Nat, k ≤ 8 ∧ i = .int .i64 (7 - (k : Int)) ∧ RB w (xs ++ padTo n k) v wr) (fun i _ _ => (intOf i + 1).toNat)
      case atStart =>
        refine ⟨0, by omega, rfl, ?_⟩
        rw [← hyp.out]; exact hM
      case round =>
        clear hM hs2
        obtain ⟨k, hk, rfl, hM⟩ := hrel
        obtain ⟨us, hus⟩ : ∃ us, us = xs ++ padTo n k := ⟨_, rfl⟩
        have hul : us.length ≤ 140737488351340 := by rw [hus, List.length_append, padTo_length, ← hnn.out]; omega
        rw [← hus] at hM
        obtain ⟨A3, cap3, rfl, hc3⟩ := rb_form hM
        replace hus := Lib.hid hus
        have hs3 := hM.2.size
        by_cases hlt3 : k < 8
        · obtain ⟨j, hj⟩ : ∃ j : Nat, (7 - (k : Int)) = (j : Int) := ⟨7 - k, by omega⟩
          rw [hj]
          have hj7 : j ≤ 7 := by omega
          have hbyte : ((n : Int) * 8 / 2 ^ (8 * j)) % 256 = bv (lenByte n k) := by
            rw [← lenByte_eq, show 8 * j = 56 - 8 * k by omega]
          replace hj := Lib.hid hj
          go_wp2_with (at_builtin; refine wpList_append_rd _ rfl (.tmp 26) (.tmp 33) 22 rfl w.heap.size 5 (B 0) 1 1 Tryd.underlying22 info8 (.slice A3 us.length cap3) us.length (us.map B) rfl (own_alloc hM.1 _) (· = wr.heap.size) (some ⟨wr.heap.size, 0, none⟩) 1 1 [B (lenByte n k)] rfl rfl (Rd.of_blk (cs := [B (lenByte n k)]) (r := []) (Blk.new_at rfl) rfl rfl) (by simp [Value.oneCell']) (by unfold maxLen; omega) (by omega) (by simp; omega) ?_; intro v' w' hown' hg' _)
          go_roundw
          case rel =>
            refine ⟨k + 1, by omega, ?_, ?_⟩
            · rw [← hj.out]; congr 1; omega
            · rw [padTo_succ, ← List.append_assoc, ← hus.out]
              exact rb_grow hM hown' hg'
          case measure => simp [intOf]
        · have hk8 : k = 8 := by omega
          subst hk8
          go_wp2
          go_ret
          have hu2 : us = xs ++ padEnd n := hus.out
          exact ⟨.slice A3 us.length cap3, rfl, by rw [← hu2]; exact hM⟩
end Go.Proofs.YtahjfnnmaalnoaaDoor
