/- The walks of digest.Less and of the reference's Less. -/
import Derived.Test.YtlenmkemjaaaoaaDoorArrEq
import Derived.Test.YtlenmkemjaaaoaaDoorConv
import Derived.Test.YtlenmkemjaaaoaaDoorPerm
import Derived.Test.YtlenmkemjaaaoaaDoorDgB
namespace Go.Proofs.YtlenmkemjaaaoaaDoor
open Go.RowKit

def lessS (a b : List UInt8) : Bool := Op.bytesLess a b
theorem lessS_self (a : List UInt8) : lessS a a = false := by
  unfold lessS
  induction a with
  | nil => rfl
  | cons x a ih => simp [Op.bytesLess, ih]

set_option maxRecDepth 100000 in
set_option maxHeartbeats 1000000 in
theorem less_any (a b : List UInt8) (ha : a.length = 32) (hb : b.length = 32) (w : World) :
    Calls Tryd.prog 69 #[.agg (a.map B).toArray, .agg (b.map B).toArray] w fun e w' => e = .returned (.bool (lessS a b)) ∧ Below w.heap.size w w' := by
  have hsa : (Tryd.prog.info? 57).map (·.size) = some (a.map B).length := by rw [List.length_map, ha]; kernel_rfl
  have hsb : (Tryd.prog.info? 57).map (·.size) = some (b.map B).length := by rw [List.length_map, hb]; kernel_rfl
  replace hsa := Lib.hid hsa
  replace hsb := Lib.hid hsb
  replace ha := Lib.hid ha
  replace hb := Lib.hid hb
  go_enter Tryd.func69, Tryd.ntmps69
  go_wp2_with (first
    | (refine wpList_load_blk rfl 57 (.tmp 2) rfl w.heap.size rfl 57 (a.map B) ((Blk.new_at rfl).alloc _) _ Tryd.underlying57 rfl hsa.out ?_)
    | (refine wpList_load_blk rfl 57 (.tmp 3) rfl (w.heap.size + 1) rfl 57 (b.map B) (Blk.new_at (by simp)) _ Tryd.underlying57 rfl hsb.out ?_)
    | (refine wpList_eql_dig rfl (.tmp 5) (.tmp 6) _ rfl a b rfl rfl ha.out hb.out ?_))
  · go_ret
    refine ⟨?_, ((Below.refl _ _).alloc (Nat.le_refl _) _).alloc (by simp) _⟩
    have : a = b := by simpa using ‹(a == b) = true›
    rw [this, lessS_self]
    rfl
  · go_frame
    have hB1 : Blk ((w.alloc (.cells (a.map B).toArray 57)).alloc (.cells (b.map B).toArray 57)) w.heap.size 57 (a.map B) := (Blk.new_at rfl).alloc _
    have hB2 : Blk ((w.alloc (.cells (a.map B).toArray 57)).alloc (.cells (b.map B).toArray 57)) (w.heap.size + 1) 57 (b.map B) := Blk.new_at (by simp)
    have hbl : Below w.heap.size w ((w.alloc (.cells (a.map B).toArray 57)).alloc (.cells (b.map B).toArray 57)) := ((Below.refl _ _).alloc (Nat.le_refl _) _).alloc (by simp) _
    generalize (w.alloc (.cells (a.map B).toArray 57)).alloc (.cells (b.map B).toArray 57) = w1 at hB1 hB2 hbl ⊢
    refine wp_region_quiet_lit (by kernel_rfl) (by kernel_rfl) ?_
    repeat (first
      | (refine wpQuiet_to_string (ok := fun _ => True) 84 9 (.tmp 8) rfl rfl 5 Tryd.underlying84 Tryd.underlying5 Tryd.underlying9 (some ⟨w.heap.size, 0, none⟩) a 32 (by rw [ha.out]; rfl) (fun w' hw => ?_) ?_
         · obtain ⟨n, rfl⟩ := hw
           exact Rd.of_blk (r := []) (hB1.drewN n) (by simp) trivial
         go_frame)
      | (refine wpQuiet_to_string (ok := fun _ => True) 84 9 (.tmp 10) rfl rfl 5 Tryd.underlying84 Tryd.underlying5 Tryd.underlying9 (some ⟨w.heap.size + 1, 0, none⟩) b 32 (by rw [hb.out]; rfl) (fun w' hw => ?_) ?_
         · obtain ⟨n, rfl⟩ := hw
           exact Rd.of_blk (r := []) (hB2.drewN n) (by simp) trivial
         go_frame)
      | go_big_quiet_step (fail))
    refine wpQuiet_nil ?_
    rintro _ ⟨nq, rfl⟩
    go_wp2
    go_ret
    exact ⟨rfl, below_drewN hbl nq⟩

theorem lessS_diff : ∀ (k : Nat) (a b : List UInt8), a.take k = b.take k → k < a.length → k < b.length → a.getD k 0 ≠ b.getD k 0 → lessS a b = decide (bv (a.getD k 0) < bv (b.getD k 0))
  | 0, x :: a, y :: b, _, _, _, hne => by
    have h1 : (x == y) = false := by rw [beq_eq_false_iff_ne]; simpa using hne
    have h2 : decide (bv x < bv y) = decide (x < y) := by
      rw [Bool.eq_iff_iff, decide_eq_true_iff, decide_eq_true_iff, UInt8.lt_iff_toNat_lt]
      unfold bv; omega
    simp [lessS, Op.bytesLess, h1, h2]
  | k + 1, x :: a, y :: b, ht, ha, hb, hne => by
    simp only [List.take_succ_cons, List.cons.injEq] at ht
    have := lessS_diff k a b ht.2 (by simpa using ha) (by simpa using hb) (by simpa using hne)
    have hxy : ¬ x < y := by rw [ht.1]; exact UInt8.lt_irrefl _
    simp only [List.getD_cons_succ]
    rw [← this]
    unfold lessS
    rw [Op.bytesLess, ht.1]
    simp
theorem take_more {a b : List UInt8} {k : Nat} (h : a.take k = b.take k) (ha : k < a.length) (hb : k < b.length) (he : a.getD k 0 = b.getD k 0) : a.take (k + 1) = b.take (k + 1) := by
  rw [List.take_succ_eq_append_getElem ha, List.take_succ_eq_append_getElem hb, h]
  simp [ha, hb] at he
  rw [he]

set_option maxRecDepth 100000 in
set_option maxHeartbeats 1000000 in
theorem rless_any (a b : List UInt8) (ha : a.length = 32) (hb : b.length = 32) (w : World) :
    Calls Tryd.prog 82 #[.agg (a.map B).toArray, .agg (b.map B).toArray] w fun e w' => e = .returned (.bool (lessS a b)) ∧ Below w.heap.size w w' := by
  have hB1 : Blk ((w.alloc (.cells (a.map B).toArray 57)).alloc (.cells (b.map B).toArray 57)) w.heap.size 57 (a.map B) := (Blk.new_at rfl).alloc _
  have hB2 : Blk ((w.alloc (.cells (a.map B).toArray 57)).alloc (.cells (b.map B).toArray 57)) (w.heap.size + 1) 57 (b.map B) := Blk.new_at (by simp)
  have hbl : Below w.heap.size w ((w.alloc (.cells (a.map B).toArray 57)).alloc (.cells (b.map B).toArray 57)) := ((Below.refl _ _).alloc (Nat.le_refl _) _).alloc (by simp) _
  replace ha := Lib.hid ha
  replace hb := Lib.hid hb
  go_enter Tryd.func82, Tryd.ntmps82
  go_wp2
  generalize (w.alloc (.cells (a.map B).toArray 57)).alloc (.cells (b.map B).toArray 57) = w1 at hB1 hB2 hbl ⊢
  go_loopw [5] (fun i wr => ∃ k : Nat, k ≤ 32 ∧ i = .int .i64 (k : Int) ∧ Hid (a.take k = b.take k) ∧ Blk wr w.heap.size 57 (a.map B) ∧ Blk wr (w.heap.size + 1) 57 (b.map B) ∧ Below w.heap.size w wr) (fun i _ => 32 - (intOf i).toNat)
  case atStart => exact ⟨0, by omega, rfl, rfl, hB1, hB2, hbl⟩
  case round =>
    clear hB1 hB2 hbl
    obtain ⟨k, hk, rfl, ht, hB1, hB2, hbl⟩ := hrel
    by_cases hlt : k < 32
    · have hla : k < a.length := by rw [ha.out]; exact hlt
      have hlb : k < b.length := by rw [hb.out]; exact hlt
      obtain ⟨x, hx⟩ : ∃ x, x = a.getD k 0 := ⟨_, rfl⟩
      obtain ⟨y, hy⟩ : ∃ y, y = b.getD k 0 := ⟨_, rfl⟩
      have hc1 : wr.cell? ⟨w.heap.size, k, none⟩ = some (B x) := by rw [hB1.cell, hx]; simp [hla]
      have hc2 : wr.cell? ⟨w.heap.size + 1, k, none⟩ = some (B y) := by rw [hB2.cell, hy]; simp [hlb]
      replace hx := Lib.hid hx
      replace hy := Lib.hid hy
      replace hla := Lib.hid hla
      replace hlb := Lib.hid hlb
      by_cases hxy : x = y
      · have hn : (bv x != bv y) = false := by rw [hxy]; simp
        replace hxy := Lib.hid hxy
        go_wp2
        go_quiet (fail)
        go_wp2
        go_roundw
        case rel =>
          refine ⟨k + 1, by omega, by go_num, take_more ht.out hla.out hlb.out (by rw [← hx.out, ← hy.out]; exact hxy.out), hB1.drewN nq, hB2.drewN nq, below_drewN hbl nq⟩
        case measure => simp [intOf]; omega
      · have hn : (bv x != bv y) = true := by rw [bne_iff_ne]; exact fun e => hxy (bv_inj e)
        replace hxy := Lib.hid hxy
        go_wp2
        go_quiet (fail)
        go_wp2
        generalize hw2 : wr.drewN nq = wr2
        have hc1' : wr2.cell? ⟨w.heap.size, k, none⟩ = some (B x) := by rw [← hw2]; exact hc1
        have hc2' : wr2.cell? ⟨w.heap.size + 1, k, none⟩ = some (B y) := by rw [← hw2]; exact hc2
        have hbl2 : Below w.heap.size w wr2 := by rw [← hw2]; exact below_drewN hbl nq
        clear hw2 hc1 hc2
        go_quiet (fail)
        go_wp2
        go_ret
        refine ⟨?_, below_drewN hbl2 nq⟩
        rw [lessS_diff k a b ht.out hla.out hlb.out (by rw [← hx.out, ← hy.out]; exact hxy.out), ← hx.out, ← hy.out]
        rfl
    · obtain rfl : k = 32 := by omega
      go_wp2
      go_ret
      refine ⟨?_, hbl⟩
      have h32 := ht.out
      rw [List.take_of_length_le (by rw [ha.out]; omega), List.take_of_length_le (by rw [hb.out]; omega)] at h32
      rw [h32, lessS_self]
      rfl
end Go.Proofs.YtlenmkemjaaaoaaDoor
