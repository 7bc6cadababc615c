/- The walk of the reference's Hex. -/
import Derived.Test.YtahjfnnmaalnoaaDoorParseP
namespace Go.Proofs.YtahjfnnmaalnoaaDoor
open Go.RowKit

theorem slice_hex (n : Nat) (hn : n < 16) (w : World) : (Instr.sliceAt 9 (.string ⟨#[48, 49, 50, 51, 52, 53, 54, 55, 56, 57, 97, 98, 99, 100, 101, 102]⟩) (some (.int .i64 (n : Int))) (some (.int .i64 ((n : Int) + 1))) none).run Tryd.prog w = .ok (.string ⟨[hexD n].toArray⟩) w := by
  obtain rfl | rfl | rfl | rfl | rfl | rfl | rfl | rfl | rfl | rfl | rfl | rfl | rfl | rfl | rfl | rfl : n = 0 ∨ n = 1 ∨ n = 2 ∨ n = 3 ∨ n = 4 ∨ n = 5 ∨ n = 6 ∨ n = 7 ∨ n = 8 ∨ n = 9 ∨ n = 10 ∨ n = 11 ∨ n = 12 ∨ n = 13 ∨ n = 14 ∨ n = 15 := by omega
  all_goals kernel_rfl
theorem wpQuiet_slice_hex {ops : Array Oper} {rest : List Oper} {o : Oper} {a : Act} {C : World → Prop} {Q : Act → Prop} (x y : Operand) (ho : o.op = .slice 9 (.const (.string ⟨#[48, 49, 50, 51, 52, 53, 54, 55, 56, 57, 97, 98, 99, 100, 101, 102]⟩)) (some x) (some y) none) (hgd : o.guard = none)
    (n : Nat) (hn : n < 16) (hx : a.eval x = .int .i64 (n : Int)) (hy : a.eval y = .int .i64 ((n : Int) + 1)) (h : wpQuiet Tryd.prog ops C Q rest (a.put o.dst (.string ⟨[hexD n].toArray⟩))) : wpQuiet Tryd.prog ops C Q (o :: rest) a := by
  refine wpQuiet_run _ ho hgd _ (fun w _ => ?_) h
  have e : ∀ v, a.eval (.const v) = v := fun _ => rfl
  simp only [execOp, ho, e, hx, hy, Option.map_some, Option.map_none, Sem.run_bind, slice_hex n hn w, Result.andThen_ok, Sem.run_pure]

theorem str_app (a b : List UInt8) : (⟨a.toArray⟩ ++ ⟨b.toArray⟩ : ByteArray) = ⟨(a ++ b).toArray⟩ := by
  apply ByteArray.ext
  simp

set_option maxRecDepth 100000 in
set_option maxHeartbeats 1000000 in
theorem rhex_any (d : List UInt8) (hd : d.length = 32) (w : World) :
    Calls Tryd.prog 25 #[.agg (d.map B).toArray] w fun e w' => e = .returned (.string ⟨(hexOf d).toArray⟩) ∧ Below w.heap.size w w' := by
  replace hd := Lib.hid hd
  go_enter Tryd.func25, Tryd.ntmps25
  go_wp2
  go_loopw [4, 3] (fun i v wr => ∃ k : Nat, k ≤ 32 ∧ i = .int .i64 (k : Int) ∧ v = .string ⟨(hexOf (d.take k)).toArray⟩ ∧ Blk wr w.heap.size 24 (d.map B) ∧ Below w.heap.size w wr) (fun i _ _ => 32 - (intOf i).toNat)
  case atStart => exact ⟨0, by omega, rfl, rfl, Blk.new_at rfl, (Below.refl _ _).alloc (Nat.le_refl _) _⟩
  case round =>
    obtain ⟨k, hk, rfl, rfl, hB, hb⟩ := hrel
    obtain ⟨ys, hys⟩ : ∃ ys, ys = hexOf (d.take k) := ⟨_, rfl⟩
    have hyl : ys.length ≤ 64 := by rw [hys, hexOf_length, List.length_take]; omega
    rw [← hys]
    replace hys := Lib.hid hys
    by_cases hlt : k < 32
    · have hkl : k < d.length := by rw [hd.out]; exact hlt
      obtain ⟨x, hx⟩ : ∃ x, x = d.getD k 0 := ⟨_, rfl⟩
      have hcell : wr.cell? ⟨w.heap.size, k, none⟩ = some (B x) := by rw [hB.cell, hx]; simp [hkl]
      have hxlt := x.toNat_lt
      have b0 := bv_nonneg x
      have b1 := bv_lt x
      replace hx := Lib.hid hx
      replace hkl := Lib.hid hkl
      go_wp2
      refine wp_region_quiet_lit (by kernel_rfl) (by kernel_rfl) ?_
      repeat (first
        | (refine wpQuiet_slice_hex (.tmp 16) (.tmp 19) rfl rfl (x.toNat / 16) (by omega) ?_ ?_ ?_; exact congrArg (Value.int .i64) (show bv x / 16 = ((x.toNat / 16 : Nat) : Int) by unfold bv; omega); exact congrArg (Value.int .i64) (show bv x / 16 + 1 = ((x.toNat / 16 : Nat) : Int) + 1 by unfold bv; omega); go_frame)
        | (refine wpQuiet_slice_hex (.tmp 23) (.tmp 26) rfl rfl (x.toNat % 16) (by omega) ?_ ?_ ?_; exact congrArg (Value.int .i64) (show bv x % 16 = ((x.toNat % 16 : Nat) : Int) by unfold bv; omega); exact congrArg (Value.int .i64) (show bv x % 16 + 1 = ((x.toNat % 16 : Nat) : Int) + 1 by unfold bv; omega); go_frame)
        | go_big_quiet_step (fail))
      refine wpQuiet_nil ?_
      rintro _ ⟨nq, rfl⟩
      go_wp2
      go_roundw
      case rel =>
        refine ⟨k + 1, by omega, by go_num, ?_, hB.drewN nq, below_drewN hb nq⟩
        have h1 := str_app ys [hexD (x.toNat / 16)]
        have h2 := str_app (ys ++ [hexD (x.toNat / 16)]) [hexD (x.toNat % 16)]
        rw [hexOf_take d k hkl.out, ← hx.out, ← hys.out]
        refine congrArg Value.string ?_
        refine (congrArg (· ++ _) h1).trans (h2.trans ?_)
        simp
      case measure => simp [intOf]; omega
    · obtain rfl : k = 32 := by omega
      have hfin : ys = hexOf d := by rw [hys.out, List.take_of_length_le (by rw [hd.out]; omega)]
      rw [hfin]
      go_wp2
      go_ret
      exact ⟨rfl, hb⟩
end Go.Proofs.YtahjfnnmaalnoaaDoor
