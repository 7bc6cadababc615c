/- The tree of a text: an element is found, a commit's operations may be, a row of one. -/
import Derived.Test.YtamdhaoglapnnaaGreatDoorM19
import Derived.Test.YtamdhaoglapnnaaGreatDoorM27
import Derived.Test.YtamdhaoglapnnaaGreatDoorM07
namespace Go.Proofs.YtamdhaoglapnnaaGreatDoor
open Go.RowKit

theorem build_ref (d : Str) (n : Int) (hd : d.length = 32) (w : World) : (Instr.build 276 #[(1, .agg (d.map B).toArray), (2, .int .i64 n)]).run Tryz.prog w = .ok (.agg (refCells ⟨false, d, n⟩).toArray) w := by
  iterate 32 (rcases d with _ | ⟨_, d⟩; · (exfalso; simp at hd; done))
  obtain rfl : d = [] := by
    simp only [List.length_cons] at hd
    exact List.length_eq_zero_iff.1 (by omega)
  kernel_rfl
theorem exec_build2 {P : Program} {w : World} {o : Oper} {a : Act} (t : TypeId) (i0 i1 : Nat) (x0 x1 : Operand) (ho : o.op = .build t #[(i0, x0), (i1, x1)]) (V0 V1 r : Value) (h0 : a.eval x0 = V0) (h1 : a.eval x1 = V1)
    (h : (Instr.build t #[(i0, V0), (i1, V1)]).run P w = .ok r w) : (execOp a.eval o).run P w = .ok (.value r) w := by
  simp only [execOp, ho, List.map_toArray, List.map_cons, List.map_nil, h0, h1, Sem.run_bind, h, Result.andThen_ok, Sem.run_pure]
abbrev treeCells (nb mb ab : Nat) (seen : Int) : List Value := [.pointer (some ⟨nb, 0, none⟩), .map (some mb), .map (some ab), .int .i64 seen]
set_option maxRecDepth 100000 in
set_option maxHeartbeats 4000000 in
theorem find_root (tb nb mb ab : Nat) (seen : Int) (id : Str) (w : World) (hT : Blk w tb 357 (treeCells nb mb ab seen)) :
    Calls Tryz.prog 264 #[.pointer (some ⟨tb, 0, none⟩), .agg (id.map B).toArray, refV rootRef] w fun e w' => e = .returned (.pointer (some ⟨nb, 0, none⟩)) ∧ Below w.heap.size w w' := by
  unfold refV
  generalize hW1 : ((w.alloc (.cells (id.map B).toArray 115)).alloc (.cells (refCells rootRef).toArray 276)) = w1
  have hb1 : Below w.heap.size w w1 := by rw [← hW1]; exact ((Below.refl _ _).alloc (Nat.le_refl _) _).alloc (by simp) _
  have hR : Blk w1 (w.heap.size + 1) 276 (refCells rootRef) := by rw [← hW1]; exact Blk.new_at (cs := refCells rootRef) (by simp)
  have hT1 := hT.below hb1 hT.lt
  have c0 : w1.cell? ⟨tb, 0, none⟩ = some (.pointer (some ⟨nb, 0, none⟩)) := hT1.cell 0
  have r0 : w1.cell? ⟨w.heap.size + 1, 0, none⟩ = some (.bool false) := hR.cell 0
  replace hR := Lib.hid hR
  replace hb1 := Lib.hid hb1
  clear hT hT1
  go_enter Tryz.func264, Tryz.ntmps264
  go_wp2_with (first
    | (refine wpList_load_blk rfl 276 (.tmp 5) rfl (w.heap.size + 1) rfl 276 (refCells rootRef) hR.out _ Tryz.underlying276 rfl (refSz rfl) ?_)
    | (refine wpList_eql_ref rfl (.tmp 13) (.tmp 14) _ rfl rootRef rootRef rfl rfl rfl rfl ?_; rw [show (rootRef.own == rootRef.own && (rootRef.com == rootRef.com && rootRef.n == rootRef.n)) = true by decide]; go_frame)
    | fail)
  go_ret
  exact ⟨rfl, hb1.out⟩
set_option maxRecDepth 100000 in
set_option maxHeartbeats 4000000 in
theorem find_own (tb nb mb ab : Nat) (seen : Int) (es : List (Value × Value)) (id : Str) (hid : id.length = 32) (k p : Nat) (w : World) (hT : Blk w tb 357 (treeCells nb mb ab seen)) (hM : MapV w mb es) (hk : ∀ q ∈ es, refK q.1)
    (hm : (refV ⟨false, id, ((k + 1 : Nat) : Int)⟩, Value.pointer (some ⟨p, 0, none⟩)) ∈ es) (hu : ∀ q ∈ es, q.1 = refV ⟨false, id, ((k + 1 : Nat) : Int)⟩ → q.2 = .pointer (some ⟨p, 0, none⟩)) (hkb : k ≤ 100000) :
    Calls Tryz.prog 264 #[.pointer (some ⟨tb, 0, none⟩), .agg (id.map B).toArray, refV (ownRef (k + 1))] w fun e w' => e = .returned (.pointer (some ⟨p, 0, none⟩)) ∧ Below w.heap.size w w' := by
  unfold refV
  generalize hW1 : ((w.alloc (.cells (id.map B).toArray 115)).alloc (.cells (refCells (ownRef (k + 1))).toArray 276)) = w1
  have hb1 : Below w.heap.size w w1 := by rw [← hW1]; exact ((Below.refl _ _).alloc (Nat.le_refl _) _).alloc (by simp) _
  have hI : Blk w1 w.heap.size 115 (id.map B) := by rw [← hW1]; exact (Blk.new_at (cs := id.map B) rfl).alloc _
  have hR : Blk w1 (w.heap.size + 1) 276 (refCells (ownRef (k + 1))) := by rw [← hW1]; exact Blk.new_at (cs := refCells (ownRef (k + 1))) (by simp)
  have hT1 := hT.below hb1 hT.lt
  have hM1 := hM.below hb1 hM.lt
  have r0 : w1.cell? ⟨w.heap.size + 1, 0, none⟩ = some (.bool true) := hR.cell 0
  have r33 : w1.cell? ⟨w.heap.size + 1, 33, none⟩ = some (.int .i64 ((k + 1 : Nat) : Int)) := hR.cell 33
  obtain ⟨r, hr⟩ : ∃ r : PRef, r = ⟨false, id, ((k + 1 : Nat) : Int)⟩ := ⟨_, rfl⟩
  have hrc : r.com.length = 32 := by rw [hr]; exact hid
  have hbr : (r.own == rootRef.own && (r.com == rootRef.com && r.n == rootRef.n)) = false := by
    have : (r.n == rootRef.n) = false := by rw [hr]; simp [rootRef]; omega
    rw [this]
    simp
  rw [← hr] at hm hu
  have hrun : ∀ w', (∃ n, w' = (w1.setRow (w.heap.size + 1) (refCells r).toArray).drewN n) → (Instr.lookup 355 (.map (some mb)) (refV r) false).run Tryz.prog w' = .ok (.pointer (some ⟨p, 0, none⟩)) w' := by
    rintro _ ⟨n, rfl⟩
    have hM2 : MapV ((w1.setRow (w.heap.size + 1) (refCells r).toArray).drewN n) mb es := hM1.block (setRow_other _ _ _ _ (by have := hM.lt; omega))
    exact hM2.look_some refKeys Tryz.underlying355 hk ⟨r, hrc, rfl⟩ hm hu false
  have hT2 := hT1.setRow_far (g' := w.heap.size + 1) (by have := hT.lt; omega) (refCells r).toArray
  have c1 : (w1.setRow (w.heap.size + 1) (refCells r).toArray).cell? ⟨tb, 1, none⟩ = some (.map (some mb)) := hT2.cell 1
  have hR2 := Lib.hid (hR.setRow_same (refCells r))
  have hb2 := Lib.hid (below_setRow hb1 (Nat.le_succ w.heap.size) (refCells r).toArray)
  replace hR := Lib.hid hR
  replace hI := Lib.hid hI
  replace hr := Lib.hid hr
  replace hrun := Lib.hid hrun
  clear hT hT1 hM hM1 hm hu hk hT2 hb1
  go_enter Tryz.func264, Tryz.ntmps264
  go_wp2_with (first
    | (refine wpList_load_blk rfl 115 (.tmp 4) rfl w.heap.size rfl 115 (id.map B) hI.out _ Tryz.underlying115 rfl (digSz hid) ?_)
    | (refine wpList_value rfl (.agg (refCells r).toArray) (exec_build2 276 1 2 (.tmp 9) (.tmp 11) rfl (.agg (id.map B).toArray) (.int .i64 ((k + 1 : Nat) : Int)) _ rfl rfl (by rw [hr.out]; exact build_ref id _ hid _)) ?_)
    | (refine wpList_store_blk rfl 276 (.tmp 5) (.tmp 12) rfl (w.heap.size + 1) (refCells r) rfl rfl 276 (refCells (ownRef (k + 1))) hR.out (by simp [refCells, hrc, ownRef, zeros]) (refSz hrc) (refCells_one _) ?_)
    | (refine wpList_load_blk rfl 276 (.tmp 5) rfl (w.heap.size + 1) rfl 276 (refCells r) hR2.out _ Tryz.underlying276 rfl (refSz hrc) ?_)
    | (refine wpList_eql_ref rfl (.tmp 13) (.tmp 14) _ rfl r rootRef rfl rfl hrc rfl ?_; rw [hbr]; go_frame)
    | fail)
  have hrun' := hrun.out
  have hR2' := hR2.out
  have hb2' := hb2.out
  generalize (w1.setRow (w.heap.size + 1) (refCells r).toArray) = w2 at c1 hrun' hR2' hb2' ⊢
  have hR3 : Hid (∀ w', (∃ n, w' = w2.drewN n) → Blk w' (w.heap.size + 1) 276 (refCells r)) := Lib.hid (by rintro _ ⟨n, rfl⟩; exact hR2'.drewN n)
  replace hrun' := Lib.hid hrun'
  replace hb2' := Lib.hid hb2'
  clear hrun hR2 hb2 r0 r33 hR2'
  refine wp_region_quiet_lit (by kernel_rfl) (by kernel_rfl) ?_
  repeat (first
    | go_big_quiet_step (fail)
    | (refine wpQuiet_load_part 276 (.tmp 5) rfl rfl (w.heap.size + 1) 0 rfl 276 (refCells r) (refCells r) [] hR3.out (by simp) _ Tryz.underlying276 rfl (refSz hrc) ?_; go_frame)
    | (refine wpQuiet_run (.lookup 355 (.tmp 23) (.tmp 24) false) rfl rfl (.pointer (some ⟨p, 0, none⟩)) (fun w' hw' => exec_lookup 355 (.tmp 23) (.tmp 24) false rfl _ _ _ rfl rfl (hrun'.out w' hw')) ?_; go_frame))
  refine wpQuiet_nil ?_
  rintro _ ⟨nq, rfl⟩
  go_wp2_with fail
  go_ret
  exact ⟨rfl, hb2'.out.trans ((Touch.drewN (L := []) nq).below hb2'.out.size (fun _ hi => by cases hi))⟩
end Go.Proofs.YtamdhaoglapnnaaGreatDoor
