/- The walk of digest.Hex. -/
import Derived.Test.YtlenmkemjaaaoaaDoorDgB
import Derived.Test.YtlenmkemjaaaoaaDoorConv
namespace Go.Proofs.YtlenmkemjaaaoaaDoor
open Go.RowKit

def hexDigits : List UInt8 := [48, 49, 50, 51, 52, 53, 54, 55, 56, 57, 97, 98, 99, 100, 101, 102]
def hexD (n : Nat) : UInt8 := hexDigits.getD n 0
def hexOf (d : List UInt8) : List UInt8 := d.flatMap fun x => [hexD (x.toNat / 16), hexD (x.toNat % 16)]
def digitsB : ByteArray := ⟨hexDigits.toArray⟩
theorem hi_eq (x : UInt8) : bv x / 16 = ((x.toNat / 16 : Nat) : Int) := by unfold bv; omega
theorem lo_eq (x : UInt8) : bits .and .u8 (bv x) 15 = ((x.toNat % 16 : Nat) : Int) := by
  have h : (15 : Int) = bv 15 := by decide
  rw [h, b_and]
  unfold bv
  rw [UInt8.toNat_and]
  exact congrArg _ (Nat.and_two_pow_sub_one_eq_mod x.toNat 4)
theorem index_hex (n : Nat) (hn : n < 16) (w : World) : (Instr.index 9 (.string digitsB) (.int .u8 (n : Int))).run Tryd.prog w = .ok (B (hexD n)) w := by
  obtain rfl | rfl | rfl | rfl | rfl | rfl | rfl | rfl | rfl | rfl | rfl | rfl | rfl | rfl | rfl | rfl : n = 0 ∨ n = 1 ∨ n = 2 ∨ n = 3 ∨ n = 4 ∨ n = 5 ∨ n = 6 ∨ n = 7 ∨ n = 8 ∨ n = 9 ∨ n = 10 ∨ n = 11 ∨ n = 12 ∨ n = 13 ∨ n = 14 ∨ n = 15 := by omega
  all_goals kernel_rfl
theorem index_dig (d : List UInt8) (hd : d.length = 32) (k : Nat) (hk : k < 32) (w : World) : (Instr.index 57 (.agg (d.map B).toArray) (.int .i64 (k : Int))).run Tryd.prog w = .ok (B (d.getD k 0)) w := by
  have h1 : (sizeOf 5).run Tryd.prog w = .ok 1 w := by kernel_rfl
  simp [Instr.index, asIntOf, run_underlying Tryd.underlying57, h1, part, hd, hk]

theorem wpQuiet_hex {ops : Array Oper} {rest : List Oper} {o : Oper} {a : Act} {C : World → Prop} {Q : Act → Prop} (y : Operand) (ho : o.op = .index 9 (.const (.string digitsB)) y) (hgd : o.guard = none)
    (n : Nat) (hn : n < 16) (hy : a.eval y = .int .u8 (n : Int)) (h : wpQuiet Tryd.prog ops C Q rest (a.put o.dst (B (hexD n)))) : wpQuiet Tryd.prog ops C Q (o :: rest) a := by
  refine wpQuiet_run _ ho hgd _ (fun w _ => ?_) h
  have e : a.eval (.const (.string digitsB)) = .string digitsB := rfl
  simp only [execOp, ho, e, hy, Sem.run_bind, index_hex n hn w, Result.andThen_ok, Sem.run_pure]
theorem hexOf_take (d : List UInt8) (k : Nat) (hk : k < d.length) : hexOf (d.take (k + 1)) = hexOf (d.take k) ++ [hexD ((d.getD k 0).toNat / 16), hexD ((d.getD k 0).toNat % 16)] := by
  rw [List.take_succ_eq_append_getElem hk]
  unfold hexOf
  rw [List.flatMap_append]
  simp [hk]
theorem hexOf_length (d : List UInt8) : (hexOf d).length = 2 * d.length := by
  induction d with
  | nil => rfl
  | cons x d ih => simp only [hexOf, List.flatMap_cons, List.length_append, List.length_cons, List.length_nil] at ih ⊢; omega

attribute [local go_sem] hi_eq lo_eq
set_option maxRecDepth 100000 in
set_option maxHeartbeats 1000000 in
theorem hex_any (d : List UInt8) (hd : d.length = 32) (w : World) :
    Calls Tryd.prog 35 #[.agg (d.map B).toArray] w fun e w' => e = .returned (.string ⟨(hexOf d).toArray⟩) ∧ Below w.heap.size w w' := by
  have hsz0 : (Tryd.prog.info? 57).map (·.size) = some (d.map B).length := by rw [List.length_map, hd]; kernel_rfl
  replace hsz0 := Lib.hid hsz0
  replace hd := Lib.hid hd
  go_enter Tryd.func35, Tryd.ntmps35
  go_wp2_with (refine wpList_load_blk rfl 57 (.tmp 1) rfl w.heap.size rfl 57 (d.map B) (Blk.new_at rfl) _ Tryd.underlying57 rfl hsz0.out ?_)
  go_loopw [7, 3] (fun i v wr => ∃ k : Nat, k ≤ 32 ∧ i = .int .i64 (k : Int) ∧ wr.ownsRow (w.heap.size + 1) 5 1 v (hexOf (d.take k)).length ((hexOf (d.take k)).map B) ∧ Below w.heap.size w wr ∧ w.heap.size + 1 ≤ wr.heap.size) (fun i _ _ => 32 - (intOf i).toNat)
  case atStart => exact ⟨0, by omega, rfl, World.ownsRow_nil _ _ _ _, (Below.refl _ _).alloc (Nat.le_refl _) _, by simp⟩
  case round =>
    obtain ⟨k, hk, rfl, hown, hb, hsz⟩ := hrel
    obtain ⟨ys, hys⟩ : ∃ ys, ys = hexOf (d.take k) := ⟨_, rfl⟩
    rw [← hys] at hown
    obtain ⟨A, cap, rfl, hcap, hcap2⟩ := own_form hown
    have hyl : ys.length ≤ 64 := by rw [hys, hexOf_length, List.length_take]; omega
    replace hys := Lib.hid hys
    by_cases hlt : k < 32
    · obtain ⟨x, hx⟩ : ∃ x, x = d.getD k 0 := ⟨_, rfl⟩
      have hidx := index_dig d hd.out k hlt
      rw [← hx] at hidx
      replace hx := Lib.hid hx
      have hxlt := x.toNat_lt
      go_wp2
      refine region_perm (C := fun w' => ∃ n, w' = wr.drewN n) [0, 1, 2, 3, 4, 5, 6] [] 7 [8, 9] (by kernel_rfl) (by kernel_rfl) (fun _ d _ _ _ h => by cases d <;> exact h) ⟨1, rfl⟩ ?_
      simp only [pickOps, List.map_cons, List.map_nil, nthOp_zero, nthOp_succ]
      repeat (first
        | (refine wpQuiet_hex (.tmp 12) rfl rfl (x.toNat / 16) (by omega) ?_ ?_; exact congrArg (Value.int .u8) (show ((x.toNat : Int) / 16) = ((x.toNat / 16 : Nat) : Int) by omega); go_frame)
        | (refine wpQuiet_hex (.tmp 15) rfl rfl (x.toNat % 16) (by omega) ?_ ?_; exact congrArg (Value.int .u8) (show ((x.toNat : Int) % 16) = ((x.toNat % 16 : Nat) : Int) by omega); go_frame)
        | go_big_quiet_step (fail))
      refine wpQuiet_nil ?_
      refine wpQuiet_nil ?_
      rintro _ ⟨nq, rfl⟩
      replace hown : (wr.drewN nq).ownsRow (w.heap.size + 1) 5 1 (.slice A ys.length cap) ys.length (ys.map B) := hown
      replace hb := below_drewN hb nq
      have hsz2 : (wr.drewN nq).heap.size = wr.heap.size := rfl
      rw [← hsz2] at hsz
      clear hsz2
      generalize wr.drewN nq = wr at hown hb hsz ⊢
      go_wp2_with (at_builtin; refine wpList_append_rd _ rfl (.tmp 10) (.tmp 17) 84 rfl (w.heap.size + 1) 5 (B 0) 1 1 Tryd.underlying84 info8 (.slice A ys.length cap) ys.length (ys.map B) rfl (hown.alloc _) (· = wr.heap.size) (some ⟨wr.heap.size, 0, none⟩) 2 2 [B (hexD (x.toNat / 16)), B (hexD (x.toNat % 16))] rfl rfl (Rd.of_blk (r := []) (Blk.new_at rfl) rfl rfl) (by simp [Value.oneCell']) (by unfold maxLen; omega) (by omega) (by simp; omega) ?_; intro v' w' hown' hg' _)
      go_roundw
      case rel =>
        refine ⟨k + 1, by omega, by go_num, ?_, ?_, ?_⟩
        · rw [hexOf_take d k (by rw [hd.out]; exact hlt), ← hx.out, ← hys.out, List.length_append, List.map_append]; exact hown'
        · exact (hb.alloc (by omega) _).trans ((own_below (hown.alloc _) hg' (by simp; omega)).mono (by omega))
        · have := hg'.size
          simp at this; omega
      case measure => simp [intOf]; omega
    · obtain rfl : k = 32 := by omega
      have hfin : ys = hexOf d := by rw [hys.out, List.take_of_length_le (by rw [hd.out]; omega)]
      have hrd := own_rd hown
      go_wp2_with (refine wpList_to_string rfl 84 9 (.tmp 20) rfl 5 Tryd.underlying84 Tryd.underlying5 Tryd.underlying9 A ys cap rfl hrd ?_)
      go_ret
      exact ⟨rfl, hb⟩
end Go.Proofs.YtlenmkemjaaaoaaDoor
