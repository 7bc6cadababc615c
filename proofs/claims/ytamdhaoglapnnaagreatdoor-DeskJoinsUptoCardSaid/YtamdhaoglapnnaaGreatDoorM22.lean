/- History and graph of nothing at all. -/
import Derived.Test.YtamdhaoglapnnaaGreatDoorM07
import Derived.Test.YtamdhaoglapnnaaGreatDoorM03
namespace Go.Proofs.YtamdhaoglapnnaaGreatDoor
open Go.RowKit

theorem mkB0 (w : World) : (Instr.makeSlice 167 (.int .i64 0) (.int .i64 0)).run Tryz.prog w = .ok (.slice (some ⟨w.heap.size, 0, none⟩) 0 0) (w.alloc (.cells #[] 4)) := by
  have h := run_make_row' 167 4 (.bool false) 1 Tryz.underlying167 (by kernel_rfl) rfl .i64 .i64 0 (by omega) (by omega) w
  have e : madeCells #[Value.bool false] 0 = #[] := by kernel_rfl
  rw [e] at h
  exact h
theorem mkB1 (w : World) : (Instr.makeSlice 167 (.int .i64 1) (.int .i64 1)).run Tryz.prog w = .ok (.slice (some ⟨w.heap.size, 0, none⟩) 1 1) (w.alloc (.cells #[.bool false] 4)) := by
  have h := run_make_row' 167 4 (.bool false) 1 Tryz.underlying167 (by kernel_rfl) rfl .i64 .i64 1 (by omega) (by omega) w
  have e : madeCells #[Value.bool false] 1 = #[.bool false] := by kernel_rfl
  rw [e] at h
  exact h
set_option maxRecDepth 100000 in
set_option maxHeartbeats 1000000 in
theorem hread_nil (w : World) : Calls Tryz.prog 182 #[nilS] w fun e w' => ∃ b, e = .returned (.tuple #[.agg #[nilS, .map (some b)], .int .i64 0, .int .i64 0]) ∧ w.heap.size ≤ b ∧ MapV w' b [] ∧ Below w.heap.size w w' := by
  have hmm := @run_makeMap Tryz.prog
  go_enter Tryz.func182, Tryz.ntmps182
  go_wp2
  go_rounds 1
  refine ret_blk3 rfl w.heap.size 250 [nilS, .map (some (w.heap.size + 1))] _ rfl (((Blk.new_at (cs := [nilS, .map (some (w.heap.size + 1))]) rfl).alloc _).alloc _) Tryz.underlying250 rfl (by kernel_rfl) rfl _ _ rfl rfl ⟨_, rfl, Nat.le_succ _, (MapV.new_at (by simp)).alloc _, (((Below.refl _ _).alloc (Nat.le_refl _) _).alloc (by simp) _).alloc (by simp; omega) _⟩
set_option maxRecDepth 100000 in
set_option maxHeartbeats 1000000 in
theorem gread_nil (w : World) : Calls Tryz.prog 257 #[nilS] w fun e w' => ∃ b, e = .returned (.tuple #[.map (some b), .int .i64 0, .int .i64 0]) ∧ w.heap.size ≤ b ∧ MapV w' b [] ∧ Below w.heap.size w w' := by
  have hmm := @run_makeMap0 Tryz.prog 99 _ _ Tryz.underlying99
  go_enter Tryz.func257, Tryz.ntmps257
  go_wp2
  go_rounds 1
  refine bodyPost_ret (results_tmp3 rfl _ _ _) rfl ?_
  exact ⟨_, rfl, Nat.le_refl _, MapV.new _, (Below.refl _ _).alloc (Nat.le_refl _) _⟩
set_option maxRecDepth 100000 in
set_option maxHeartbeats 1000000 in
theorem isort_nil (A : Option Addr) (c : Nat) (f : Value) (w : World) : Calls Tryz.prog 357 #[.slice A 0 c, .int .i64 0, .int .i64 0, f] w fun e w' => e = .returned (.tuple #[]) ∧ Below w.heap.size w w' := by
  go_enter Tryz.func357, Tryz.ntmps357
  go_wp2
  go_rounds 1
  refine bodyPost_end (v := .tuple #[]) (results_none (by rfl) _ _ _) rfl ⟨rfl, Below.refl _ _⟩
set_option maxRecDepth 100000 in
set_option maxHeartbeats 1000000 in
theorem psort_nil (A : Option Addr) (c : Nat) (f n : Value) (w : World) : Calls Tryz.prog 342 #[.slice A 0 c, .int .i64 0, .int .i64 0, n, f] w fun e w' => e = .returned (.tuple #[]) ∧ Below w.heap.size w w' := by
  have hc := Lib.hid (isort_nil A c f w)
  go_enter Tryz.func342, Tryz.ntmps342
  go_wp2_with fail
  refine wp_loop_rounds 1 ?_
  rw [rounds_succ]
  go_wp2_with fail
  refine hc.out.mono ?_
  rintro e W ⟨rfl, hb⟩
  go_wp2_with fail
  exact bodyPost_ret (v := .tuple #[]) (results_none (by rfl) _ _ _) rfl ⟨rfl, hb⟩
set_option maxRecDepth 100000 in
set_option maxHeartbeats 1000000 in
theorem sortD_nil (A : Option Addr) (c : Nat) (f : Value) (w : World) : Calls Tryz.prog 308 #[.slice A 0 c, f] w fun e w' => e = .returned (.tuple #[]) ∧ Below w.heap.size w w' := by
  have hc := Lib.hid (fun n => psort_nil A c f n w)
  have hl := Lib.hid (Tryz.bits_Len 0 w (by omega) (by omega))
  go_enter Tryz.func308, Tryz.ntmps308
  go_wp2_with fail
  refine hl.out.mono ?_
  rintro e W ⟨rfl, rfl⟩
  go_wp2_with fail
  refine (hc.out _).mono ?_
  rintro e W1 ⟨rfl, hb⟩
  go_wp2_with fail
  exact bodyPost_end (v := .tuple #[]) (results_none (by rfl) _ _ _) rfl ⟨rfl, hb⟩
set_option maxRecDepth 100000 in
set_option maxHeartbeats 1000000 in
theorem nodes_nil (w : World) : Calls Tryz.prog 120 #[nilS] w fun e w' => e = .returned (.tuple #[nilS, .int .i64 0]) ∧ Below w.heap.size w w' := by
  have hc := Lib.hid (hread_nil w)
  go_enter Tryz.func120, Tryz.ntmps120
  go_wp2_with fail
  refine hc.out.mono ?_
  rintro e W ⟨b, rfl, _, _, hb⟩
  go_wp2_with fail
  go_ret2
  exact ⟨rfl, hb.alloc hb.size _⟩
set_option maxRecDepth 100000 in
set_option maxHeartbeats 1000000 in
theorem hbeneath_nil (b : Nat) (w : World) : Calls Tryz.prog 191 #[.agg #[nilS, .map (some b)], nilS] w fun e w' => ∃ sb, e = .returned (.agg #[nilS, .map (some b), .slice (some ⟨sb, 0, none⟩) 0 0]) ∧ Below w.heap.size w w' := by
  have hmk := mkB0
  go_enter Tryz.func191, Tryz.ntmps191
  go_wp2_with fail
  go_region
  · go_wp2_with fail
    go_rounds 1
    go_rounds 1
    exact ret_blk rfl (w.heap.size + 1) 268 [nilS, .map (some b), .slice (some ⟨w.heap.size + 1 + 1, 0, none⟩) 0 0] _ rfl (((Blk.new_at (cs := [nilS, .map (some b), .slice (some ⟨w.heap.size + 1 + 1, 0, none⟩) 0 0]) (by simp)).alloc _).alloc _).drew Tryz.underlying268 rfl (by kernel_rfl) rfl ⟨_, rfl, by go_grown⟩
  · go_wp2_with fail
    go_rounds 1
    go_rounds 1
    exact ret_blk rfl (w.heap.size + 1) 268 [nilS, .map (some b), .slice (some ⟨w.heap.size + 1 + 1 + 1, 0, none⟩) 0 0] _ rfl (((Blk.new_at (cs := [nilS, .map (some b), .slice (some ⟨w.heap.size + 1 + 1 + 1, 0, none⟩) 0 0]) (by simp)).alloc _).alloc _).drew Tryz.underlying268 rfl (by kernel_rfl) rfl ⟨_, rfl, by go_grown⟩
set_option maxRecDepth 100000 in
set_option maxHeartbeats 1000000 in
theorem htree_nil (w : World) : Calls Tryz.prog 126 #[nilS, nilS] w fun e w' => ∃ tb nb mb ab, e = .returned (.tuple #[.pointer (some ⟨tb, 0, none⟩), .int .i64 0]) ∧ TreeAt w' tb nb mb ab 0 [] [] nilS ∧ w.heap.size ≤ nb ∧ nb < mb ∧ mb < ab ∧ ab < tb ∧ Below w.heap.size w w' := by
  have hc := Lib.hid (hread_nil w)
  go_enter Tryz.func126, Tryz.ntmps126
  go_wp2_with fail
  refine hc.out.mono ?_
  rintro e W ⟨b, rfl, _, _, hb⟩
  replace hb := Lib.hid hb
  go_wp2_with fail
  refine wp_loop_rounds 1 ?_
  rw [rounds_succ]
  go_wp2_with fail
  refine (hbeneath_nil b _).mono ?_
  rintro e W1 ⟨sb, rfl, hb1⟩
  have hb2 := Lib.hid ((hb.out.alloc hb.out.size (Obj.cells #[nilS, .map (some b)] 250)).trans (hb1.mono (by have := hb.out.size; simp; omega)))
  go_wp2_with fail
  refine (fnew_any _).mono ?_
  rintro e W2 ⟨tb, nb, mb, ab, rfl, hT, e1, e2, e3, e4, hb3⟩
  replace hT := Lib.hid hT
  go_wp2_with fail
  refine wp_loop_rounds 1 ?_
  rw [rounds_succ]
  go_wp2_with fail
  go_returns
  refine ⟨_, _, _, _, rfl, hT.out, ?_, e2, e3, e4, ?_⟩
  · have h1 := hb2.out.size
    simp at h1 e1
    omega
  · exact (hb2.out.alloc hb2.out.size _).trans (hb3.mono (by have := hb2.out.size; simp; omega))
set_option maxRecDepth 100000 in
set_option maxHeartbeats 1000000 in
theorem gbegin_nil (sb : Nat) (A : Option Addr) (c : Nat) (w : World) (h : w.cell? ⟨sb, 0, none⟩ = some (.slice A 0 c)) : Calls Tryz.prog 183 #[nilS, .slice (some ⟨sb, 0, none⟩) 1 1] w fun e w' => ∃ k b s, e = .returned (.tuple #[.pointer (some ⟨k, 0, none⟩), .int .i64 0]) ∧ Blk w' k 259 [nilS, .map (some b), s] ∧ Below w.heap.size w w' := by
  have hc := Lib.hid (gread_nil w)
  have hmk := mkB0
  have hlt := World.block_lt_of_cell? _ _ h
  replace h := Lib.hid h
  go_enter Tryz.func183, Tryz.ntmps183
  go_wp2_with fail
  refine hc.out.mono ?_
  rintro e W ⟨b, rfl, _, _, hb⟩
  have c0 : W.cell? ⟨sb, 0, none⟩ = some (.slice A 0 c) := by rw [hb.cell (p := ⟨sb, 0, none⟩) hlt]; exact h.out
  replace hb := Lib.hid hb
  go_wp2_with fail
  refine wp_loop_rounds 2 ?_
  rw [rounds_succ]
  go_wp2_with fail
  refine wp_loop_rounds 1 ?_
  rw [rounds_succ]
  go_wp2_with fail
  rw [rounds_succ]
  go_wp2_with fail
  go_returns
  exact ⟨_, _, _, rfl, Blk.new_at (cs := [nilS, .map (some b), .slice (some ⟨W.heap.size, 0, none⟩) 0 0]) (by simp), by have h1 := hb.out; have h2 := h1.size; go_grown⟩
set_option maxRecDepth 100000 in
set_option maxHeartbeats 1000000 in
theorem lheads_nil (k : Nat) (m s A : Value) (w : World) (h : Blk w k 259 [nilS, m, s]) : Calls Tryz.prog 255 #[.pointer (some ⟨k, 0, none⟩), A] w fun e w' => e = .returned nilS ∧ Below w.heap.size w w' := by
  have c0 : w.cell? ⟨k, 0, none⟩ = some nilS := h.cell 0
  have c0' : (w.alloc (.cells #[] 4)).cell? ⟨k, 0, none⟩ = some nilS := (h.alloc _).cell 0
  have hmk := mkB0
  clear h
  go_enter Tryz.func255, Tryz.ntmps255
  go_wp2_with fail
  refine wp_loop_rounds 1 ?_
  rw [rounds_succ]
  go_wp2_with fail
  refine (sortD_nil none 0 _ _).mono ?_
  rintro e W ⟨rfl, hb⟩
  go_wp2_with fail
  go_returns
  exact ⟨rfl, ((Below.refl _ _).alloc (Nat.le_refl _) _).trans (hb.mono (by simp))⟩
set_option maxRecDepth 100000 in
set_option maxHeartbeats 1000000 in
theorem gheads_nil (A : Option Addr) (c : Nat) (w : World) : Calls Tryz.prog 181 #[nilS, .slice A 0 c] w fun e w' => e = .returned (.tuple #[nilS, .int .i64 0]) ∧ Below w.heap.size w w' := by
  have hmk := mkB0
  go_enter Tryz.func181, Tryz.ntmps181
  go_wp2_with fail
  refine (gbegin_nil _ A c _ ((Blk.new_at (cs := [.slice A 0 c]) rfl).cell 0)).mono ?_
  rintro e W ⟨k, b, s, rfl, hk, hb⟩
  have hb2 := Lib.hid (((Below.refl _ _).alloc (Nat.le_refl w.heap.size) (Obj.cells #[.slice A 0 c] 108)).trans (hb.mono (by simp)))
  replace hk := Lib.hid hk
  clear hb
  go_wp2_with fail
  refine wp_loop_rounds 1 ?_
  rw [rounds_succ]
  go_wp2_with fail
  refine (lheads_nil k _ _ _ _ (hk.out.alloc _)).mono ?_
  rintro e W1 ⟨rfl, hb1⟩
  go_wp2_with fail
  go_returns
  exact ⟨rfl, (hb2.out.alloc hb2.out.size _).trans (hb1.mono (by have := hb2.out.size; simp; omega))⟩
set_option maxRecDepth 100000 in
set_option maxHeartbeats 1000000 in
theorem hmerge_nil (w : World) : Calls Tryz.prog 118 #[nilS, nilS, nilS] w fun e w' => e = .returned (.tuple #[nilS, .int .i64 0]) ∧ Below w.heap.size w w' := by
  go_enter Tryz.func118, Tryz.ntmps118
  go_wp2_with fail
  refine (nodes_nil _).mono ?_
  rintro e W ⟨rfl, hb⟩
  go_wp2_with fail
  refine (gheads_nil none 0 _).mono ?_
  rintro e W1 ⟨rfl, hb1⟩
  go_wp2_with fail
  go_returns
  exact ⟨rfl, hb.trans (hb1.mono hb.size)⟩
end Go.Proofs.YtamdhaoglapnnaaGreatDoor
